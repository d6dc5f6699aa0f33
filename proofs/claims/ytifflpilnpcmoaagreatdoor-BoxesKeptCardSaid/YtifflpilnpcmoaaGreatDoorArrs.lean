/- What is wrong with a call and arrivals; the maker Arrivals. -/
import Derived.Test.YtifflpilnpcmoaaGreatDoorStateP
import Derived.Test.YtifflpilnpcmoaaGreatDoorArrive2
import Derived.Test.YtifflpilnpcmoaaGreatDoorMakeCall2
import Derived.Test.YtifflpilnpcmoaaGreatDoorKeep
namespace Go.Proofs.YtifflpilnpcmoaaGreatDoor
open Go.RowKit
set_option linter.unusedVariables false
set_option linter.unusedSimpArgs false

/-- An arrival as it is made: small. -/
def ArvOk (x : Arv) : Prop := x.1.size ≤ 1000 ∧ x.2.2.2.1.size ≤ 1000 ∧ x.2.2.2.2.size ≤ 100000 ∧ -10000000 ≤ x.2.1 ∧ x.2.1 ≤ 10000000 ∧ 0 ≤ x.2.2.1 ∧ x.2.2.1 ≤ 10
def arrE (l : List Arv) (i : Nat) : Int := match l[i]? with | none => 0 | some x => arrivalFault x.1 x.2.1 x.2.2.1 x.2.2.2.1 x.2.2.2.2
def arrsFault (o a f : Int) (s : List Skill) (l : List Arv) : Int := if callFault o a f s ≠ 0 then callFault o a f s else if 2000 < l.length then 2 else firstErr (arrE l) l.length
theorem arrsFault_mem {o a f : Int} {s : List Skill} {l : List Arv} (h : arrsFault o a f s l = 0) : callFault o a f s = 0 ∧ l.length ≤ 2000 ∧ ∀ x ∈ l, arrivalFault x.1 x.2.1 x.2.2.1 x.2.2.2.1 x.2.2.2.2 = 0 := by
  unfold arrsFault at h
  split at h
  · rename_i h1; exact absurd h h1
  · rename_i h1
    split at h
    · omega
    · refine ⟨Classical.not_not.1 h1, by omega, fun x hx => ?_⟩
      obtain ⟨i, hi, rfl⟩ := List.mem_iff_getElem.1 hx
      have := firstErr_all h i hi
      unfold arrE at this
      rw [List.getElem?_eq_getElem hi] at this
      exact this
set_option maxRecDepth 100000 in
set_option maxHeartbeats 4000000 in
theorem arrsFaultP_any (o a f : Int) (s : List Skill) (a3 : Option Addr) (c3 : Nat) (l : List Arv) (la : Option Addr) (cap : Nat) (w : World) (hE : Env w) (hs : SA w a3 s) (hsl : s.length ≤ 1000000) (hsm : ∀ x ∈ s, x.1.size ≤ 1000) (hl : SA w la l) (hll : l.length ≤ 100000) (hok : ∀ x ∈ l, ArvOk x) :
    Calls Tryz.prog 37 #[callAgg o a f s a3 c3, .slice la l.length cap] w (Gives (.int .i64 (arrsFault o a f s l)) w) := by
  have HPF := Lib.hid (show arrsFault o a f s l = (if callFault o a f s ≠ 0 then callFault o a f s else if 2000 < l.length then 2 else firstErr (arrE l) l.length) from rfl)
  generalize arrsFault o a f s l = pf at *
  have HC := Lib.hid (fun W (h : SA W a3 s) => checkCall_any o a f s a3 c3 W h hsl hsm)
  have HA := Lib.hid (fun (p : ByteArray) (t k : Int) (r x : ByteArray) W (h : Env W) (h1 : p.size ≤ 1000000) (h2 : r.size ≤ 1000000) (h3 : x.size ≤ 1000000) => checkArrival_any p t k r x W h h1 h2 h3)
  have Hok := Lib.hid hok
  clear hok
  generalize callFault o a f s = cf at *
  unfold callAgg at *
  go_enter Tryz.func37, Tryz.ntmps37
  go_wp2_with fail
  refine (HC.out _ (hs.alloc _)).mono ?_
  rintro e w1 ⟨rfl, hb1⟩
  have hb1' : Below w.heap.size w w1 := by (repeat' (first | exact Below.refl _ _ | assumption | refine Below.setCell ?_ ?_ _ | refine below_drewN ?_ _ | refine Below.drew ?_ | refine Below.alloc ?_ ?_ _ | (with_reducible refine Below.trans ?_ (Below.mono hb ?_)) | (with_reducible refine Below.trans ?_ (Below.mono hb0 ?_)) | (with_reducible refine Below.trans ?_ (Below.mono hb1 ?_)) | (with_reducible refine Below.trans ?_ (Below.mono hb2 ?_)) | (with_reducible refine Below.trans ?_ (Below.mono hb3 ?_)) | (with_reducible refine Below.trans ?_ (Below.mono hb4 ?_)) | (with_reducible refine Below.trans ?_ (Below.mono hb5 ?_)) | (with_reducible refine Below.trans ?_ (Below.mono hb6 ?_)) | (with_reducible refine Below.trans ?_ (Below.mono hb7 ?_)) | (with_reducible refine Below.trans ?_ (Below.mono hb8 ?_)) | (with_reducible refine Below.trans ?_ (Below.mono hb9 ?_)) | (with_reducible refine Below.trans ?_ (Below.mono hb10 ?_)) | (with_reducible refine Below.trans ?_ (Below.mono hb11 ?_)) | (with_reducible refine Below.trans ?_ (Below.mono hb12 ?_)) | (with_reducible refine Below.trans ?_ (Below.mono hb13 ?_)) | (with_reducible refine Below.trans ?_ (Below.mono hb14 ?_)) | (with_reducible refine Below.trans ?_ (Below.mono hb15 ?_)) | omega | (simp; done) | (simp; omega)))
  clear hb1
  by_cases hcf : cf = 0
  · subst hcf
    rw [if_neg (fun h => h rfl)] at HPF
    by_cases hln : 2000 < l.length
    · have Hv := Lib.hid (show pf = 2 by rw [HPF.out, if_pos hln])
      go_wp2_with fail
      go_ret
      exact ⟨by rw [Hv.out]; rfl, hb1'⟩
    rw [if_neg hln] at HPF
    go_wp2_with fail
    go_loopg [19] l.length (fun gk i wr => ∃ k : Nat, i = .int .i64 k ∧ k ≤ l.length ∧ Hid (gk = l.length - k) ∧ Hid (∀ j, j < k → arrE l j = 0) ∧ Below w.heap.size w wr)
    case atStart => exact ⟨0, rfl, by omega, rfl, fun j hj => by omega, hb1'⟩
    case round =>
      clear hb1'
      obtain ⟨k, rfl, hk, hgk, hz, hb⟩ := hrel
      by_cases hlt : k < l.length
      · obtain ⟨b, off, hae, c0, c1, c2, c3, c4⟩ := (hl.below hb).arv hlt
        have hE9 : arrE l k = arrivalFault l[k].1 l[k].2.1 l[k].2.2.1 l[k].2.2.2.1 l[k].2.2.2.2 := by unfold arrE; rw [List.getElem?_eq_getElem hlt]
        have HE := Lib.hid hE9
        clear hE9
        have Hx := Lib.hid (Hok.out l[k] (List.getElem_mem hlt))
        have Hfe := Lib.hid (fun (e : Int) (he : arrE l k = e) (he0 : e ≠ 0) => (show pf = e by rw [HPF.out, firstErr_is (f := arrE l) hlt hz.out he he0]))
        have hbz := hb.size
        have hEr := hE.below hb
        rw [hae]
        generalize l[k] = x at *
        obtain ⟨x1, x2, x3, x4, x5⟩ := x
        simp only at c0 c1 c2 c3 c4 HE
        have hb2 : Below w.heap.size w (wr.alloc (.cells #[.string x1, .int .i64 x2, .int .i64 x3, .string x4, .string x5] 63)) := by (repeat' (first | exact Below.refl _ _ | assumption | refine Below.setCell ?_ ?_ _ | refine below_drewN ?_ _ | refine Below.drew ?_ | refine Below.alloc ?_ ?_ _ | (with_reducible refine Below.trans ?_ (Below.mono hb ?_)) | (with_reducible refine Below.trans ?_ (Below.mono hb0 ?_)) | (with_reducible refine Below.trans ?_ (Below.mono hb1 ?_)) | (with_reducible refine Below.trans ?_ (Below.mono hb2 ?_)) | (with_reducible refine Below.trans ?_ (Below.mono hb3 ?_)) | (with_reducible refine Below.trans ?_ (Below.mono hb4 ?_)) | (with_reducible refine Below.trans ?_ (Below.mono hb5 ?_)) | (with_reducible refine Below.trans ?_ (Below.mono hb6 ?_)) | (with_reducible refine Below.trans ?_ (Below.mono hb7 ?_)) | (with_reducible refine Below.trans ?_ (Below.mono hb8 ?_)) | (with_reducible refine Below.trans ?_ (Below.mono hb9 ?_)) | (with_reducible refine Below.trans ?_ (Below.mono hb10 ?_)) | (with_reducible refine Below.trans ?_ (Below.mono hb11 ?_)) | (with_reducible refine Below.trans ?_ (Below.mono hb12 ?_)) | (with_reducible refine Below.trans ?_ (Below.mono hb13 ?_)) | (with_reducible refine Below.trans ?_ (Below.mono hb14 ?_)) | (with_reducible refine Below.trans ?_ (Below.mono hb15 ?_)) | omega | (simp; done) | (simp; omega)))
        have HAx := Lib.hid (fun W h => HA.out x1 x2 x3 x4 x5 W h (by have := Hx.out.1; simp only at this; omega) (by have := Hx.out.2.1; simp only at this; omega) (by have := Hx.out.2.2.1; simp only at this; omega))
        generalize arrivalFault x1 x2 x3 x4 x5 = af at *
        go_wp2_with fail
        refine (HAx.out _ (hEr.alloc _)).mono ?_
        rintro e w2 ⟨rfl, hb3⟩
        have hb4 : Below w.heap.size w w2 := by (repeat' (first | exact Below.refl _ _ | assumption | refine Below.setCell ?_ ?_ _ | refine below_drewN ?_ _ | refine Below.drew ?_ | refine Below.alloc ?_ ?_ _ | (with_reducible refine Below.trans ?_ (Below.mono hb ?_)) | (with_reducible refine Below.trans ?_ (Below.mono hb0 ?_)) | (with_reducible refine Below.trans ?_ (Below.mono hb1 ?_)) | (with_reducible refine Below.trans ?_ (Below.mono hb2 ?_)) | (with_reducible refine Below.trans ?_ (Below.mono hb3 ?_)) | (with_reducible refine Below.trans ?_ (Below.mono hb4 ?_)) | (with_reducible refine Below.trans ?_ (Below.mono hb5 ?_)) | (with_reducible refine Below.trans ?_ (Below.mono hb6 ?_)) | (with_reducible refine Below.trans ?_ (Below.mono hb7 ?_)) | (with_reducible refine Below.trans ?_ (Below.mono hb8 ?_)) | (with_reducible refine Below.trans ?_ (Below.mono hb9 ?_)) | (with_reducible refine Below.trans ?_ (Below.mono hb10 ?_)) | (with_reducible refine Below.trans ?_ (Below.mono hb11 ?_)) | (with_reducible refine Below.trans ?_ (Below.mono hb12 ?_)) | (with_reducible refine Below.trans ?_ (Below.mono hb13 ?_)) | (with_reducible refine Below.trans ?_ (Below.mono hb14 ?_)) | (with_reducible refine Below.trans ?_ (Below.mono hb15 ?_)) | omega | (simp; done) | (simp; omega)))
        by_cases haf : af = 0
        · have HZ : Hid (∀ j, j < k + 1 → arrE l j = 0) := zeros_succ hz.out (by rw [HE.out, haf])
          subst haf
          go_wp2_with fail
          rw [← hae]
          go_roundg (l.length - (k + 1))
          case measure => have := hgk.out; omega
          case rel => exact ⟨k + 1, by go_num, by omega, rfl, HZ, hb4⟩
        · have Hv := Lib.hid (Hfe.out af HE.out haf)
          have haf' : (af != 0) = true := by simpa using haf
          clear haf
          go_wp2_with fail
          go_ret
          exact ⟨by rw [Hv.out] <;> rfl, hb4⟩
      · obtain rfl : k = l.length := by omega
        have Hv := Lib.hid (show pf = 0 by rw [HPF.out, firstErr_zero hz.out])
        go_wp2_with fail
        go_ret
        exact ⟨by rw [Hv.out] <;> rfl, hb⟩
  · rw [if_pos hcf] at HPF
    have hcf' : (cf != 0) = true := by simpa using hcf
    clear hcf
    go_wp2_with fail
    go_ret
    exact ⟨by rw [HPF.out] <;> rfl, hb1'⟩
set_option maxRecDepth 100000 in
set_option maxHeartbeats 4000000 in
theorem arrsFaultR_any (o a f : Int) (s : List Skill) (a3 : Option Addr) (c3 : Nat) (l : List Arv) (la : Option Addr) (cap : Nat) (w : World) (hE : Env w) (hs : SA w a3 s) (hsl : s.length ≤ 1000000) (hsm : ∀ x ∈ s, x.1.size ≤ 1000) (hl : SA w la l) (hll : l.length ≤ 100000) (hok : ∀ x ∈ l, ArvOk x) :
    Calls Tryz.prog 12 #[callAgg o a f s a3 c3, .slice la l.length cap] w (Gives (.int .i64 (arrsFault o a f s l)) w) := by
  have HPF := Lib.hid (show arrsFault o a f s l = (if callFault o a f s ≠ 0 then callFault o a f s else if 2000 < l.length then 2 else firstErr (arrE l) l.length) from rfl)
  generalize arrsFault o a f s l = pf at *
  have HC := Lib.hid (fun W (h : SA W a3 s) => callFault_any o a f s a3 c3 W h hsl hsm)
  have HA := Lib.hid (fun (p : ByteArray) (t k : Int) (r x : ByteArray) W (h : Env W) (h1 : p.size ≤ 1000000) (h2 : r.size ≤ 1000000) (h3 : x.size ≤ 1000000) => arrivalFault_any p t k r x W h h1 h2 h3)
  have Hok := Lib.hid hok
  clear hok
  generalize callFault o a f s = cf at *
  unfold callAgg at *
  go_enter Tryz.func12, Tryz.ntmps12
  go_wp2_with fail
  refine (HC.out _ (hs.alloc _)).mono ?_
  rintro e w1 ⟨rfl, hb1⟩
  have hb1' : Below w.heap.size w w1 := by (repeat' (first | exact Below.refl _ _ | assumption | refine Below.setCell ?_ ?_ _ | refine below_drewN ?_ _ | refine Below.drew ?_ | refine Below.alloc ?_ ?_ _ | (with_reducible refine Below.trans ?_ (Below.mono hb ?_)) | (with_reducible refine Below.trans ?_ (Below.mono hb0 ?_)) | (with_reducible refine Below.trans ?_ (Below.mono hb1 ?_)) | (with_reducible refine Below.trans ?_ (Below.mono hb2 ?_)) | (with_reducible refine Below.trans ?_ (Below.mono hb3 ?_)) | (with_reducible refine Below.trans ?_ (Below.mono hb4 ?_)) | (with_reducible refine Below.trans ?_ (Below.mono hb5 ?_)) | (with_reducible refine Below.trans ?_ (Below.mono hb6 ?_)) | (with_reducible refine Below.trans ?_ (Below.mono hb7 ?_)) | (with_reducible refine Below.trans ?_ (Below.mono hb8 ?_)) | (with_reducible refine Below.trans ?_ (Below.mono hb9 ?_)) | (with_reducible refine Below.trans ?_ (Below.mono hb10 ?_)) | (with_reducible refine Below.trans ?_ (Below.mono hb11 ?_)) | (with_reducible refine Below.trans ?_ (Below.mono hb12 ?_)) | (with_reducible refine Below.trans ?_ (Below.mono hb13 ?_)) | (with_reducible refine Below.trans ?_ (Below.mono hb14 ?_)) | (with_reducible refine Below.trans ?_ (Below.mono hb15 ?_)) | omega | (simp; done) | (simp; omega)))
  clear hb1
  by_cases hcf : cf = 0
  · subst hcf
    rw [if_neg (fun h => h rfl)] at HPF
    by_cases hln : 2000 < l.length
    · have Hv := Lib.hid (show pf = 2 by rw [HPF.out, if_pos hln])
      go_wp2_with fail
      go_ret
      exact ⟨by rw [Hv.out]; rfl, hb1'⟩
    rw [if_neg hln] at HPF
    go_wp2_with fail
    go_loopg [19] l.length (fun gk i wr => ∃ k : Nat, i = .int .i64 k ∧ k ≤ l.length ∧ Hid (gk = l.length - k) ∧ Hid (∀ j, j < k → arrE l j = 0) ∧ Below w.heap.size w wr)
    case atStart => exact ⟨0, rfl, by omega, rfl, fun j hj => by omega, hb1'⟩
    case round =>
      clear hb1'
      obtain ⟨k, rfl, hk, hgk, hz, hb⟩ := hrel
      by_cases hlt : k < l.length
      · obtain ⟨b, off, hae, c0, c1, c2, c3, c4⟩ := (hl.below hb).arv hlt
        have hE9 : arrE l k = arrivalFault l[k].1 l[k].2.1 l[k].2.2.1 l[k].2.2.2.1 l[k].2.2.2.2 := by unfold arrE; rw [List.getElem?_eq_getElem hlt]
        have HE := Lib.hid hE9
        clear hE9
        have Hx := Lib.hid (Hok.out l[k] (List.getElem_mem hlt))
        have Hfe := Lib.hid (fun (e : Int) (he : arrE l k = e) (he0 : e ≠ 0) => (show pf = e by rw [HPF.out, firstErr_is (f := arrE l) hlt hz.out he he0]))
        have hbz := hb.size
        have hEr := hE.below hb
        rw [hae]
        generalize l[k] = x at *
        obtain ⟨x1, x2, x3, x4, x5⟩ := x
        simp only at c0 c1 c2 c3 c4 HE
        have hb2 : Below w.heap.size w (wr.alloc (.cells #[.string x1, .int .i64 x2, .int .i64 x3, .string x4, .string x5] 63)) := by (repeat' (first | exact Below.refl _ _ | assumption | refine Below.setCell ?_ ?_ _ | refine below_drewN ?_ _ | refine Below.drew ?_ | refine Below.alloc ?_ ?_ _ | (with_reducible refine Below.trans ?_ (Below.mono hb ?_)) | (with_reducible refine Below.trans ?_ (Below.mono hb0 ?_)) | (with_reducible refine Below.trans ?_ (Below.mono hb1 ?_)) | (with_reducible refine Below.trans ?_ (Below.mono hb2 ?_)) | (with_reducible refine Below.trans ?_ (Below.mono hb3 ?_)) | (with_reducible refine Below.trans ?_ (Below.mono hb4 ?_)) | (with_reducible refine Below.trans ?_ (Below.mono hb5 ?_)) | (with_reducible refine Below.trans ?_ (Below.mono hb6 ?_)) | (with_reducible refine Below.trans ?_ (Below.mono hb7 ?_)) | (with_reducible refine Below.trans ?_ (Below.mono hb8 ?_)) | (with_reducible refine Below.trans ?_ (Below.mono hb9 ?_)) | (with_reducible refine Below.trans ?_ (Below.mono hb10 ?_)) | (with_reducible refine Below.trans ?_ (Below.mono hb11 ?_)) | (with_reducible refine Below.trans ?_ (Below.mono hb12 ?_)) | (with_reducible refine Below.trans ?_ (Below.mono hb13 ?_)) | (with_reducible refine Below.trans ?_ (Below.mono hb14 ?_)) | (with_reducible refine Below.trans ?_ (Below.mono hb15 ?_)) | omega | (simp; done) | (simp; omega)))
        have HAx := Lib.hid (fun W h => HA.out x1 x2 x3 x4 x5 W h (by have := Hx.out.1; simp only at this; omega) (by have := Hx.out.2.1; simp only at this; omega) (by have := Hx.out.2.2.1; simp only at this; omega))
        generalize arrivalFault x1 x2 x3 x4 x5 = af at *
        go_wp2_with fail
        refine (HAx.out _ (hEr.alloc _)).mono ?_
        rintro e w2 ⟨rfl, hb3⟩
        have hb4 : Below w.heap.size w w2 := by (repeat' (first | exact Below.refl _ _ | assumption | refine Below.setCell ?_ ?_ _ | refine below_drewN ?_ _ | refine Below.drew ?_ | refine Below.alloc ?_ ?_ _ | (with_reducible refine Below.trans ?_ (Below.mono hb ?_)) | (with_reducible refine Below.trans ?_ (Below.mono hb0 ?_)) | (with_reducible refine Below.trans ?_ (Below.mono hb1 ?_)) | (with_reducible refine Below.trans ?_ (Below.mono hb2 ?_)) | (with_reducible refine Below.trans ?_ (Below.mono hb3 ?_)) | (with_reducible refine Below.trans ?_ (Below.mono hb4 ?_)) | (with_reducible refine Below.trans ?_ (Below.mono hb5 ?_)) | (with_reducible refine Below.trans ?_ (Below.mono hb6 ?_)) | (with_reducible refine Below.trans ?_ (Below.mono hb7 ?_)) | (with_reducible refine Below.trans ?_ (Below.mono hb8 ?_)) | (with_reducible refine Below.trans ?_ (Below.mono hb9 ?_)) | (with_reducible refine Below.trans ?_ (Below.mono hb10 ?_)) | (with_reducible refine Below.trans ?_ (Below.mono hb11 ?_)) | (with_reducible refine Below.trans ?_ (Below.mono hb12 ?_)) | (with_reducible refine Below.trans ?_ (Below.mono hb13 ?_)) | (with_reducible refine Below.trans ?_ (Below.mono hb14 ?_)) | (with_reducible refine Below.trans ?_ (Below.mono hb15 ?_)) | omega | (simp; done) | (simp; omega)))
        by_cases haf : af = 0
        · have HZ : Hid (∀ j, j < k + 1 → arrE l j = 0) := zeros_succ hz.out (by rw [HE.out, haf])
          subst haf
          go_wp2_with fail
          rw [← hae]
          go_roundg (l.length - (k + 1))
          case measure => have := hgk.out; omega
          case rel => exact ⟨k + 1, by go_num, by omega, rfl, HZ, hb4⟩
        · have Hv := Lib.hid (Hfe.out af HE.out haf)
          have haf' : (af != 0) = true := by simpa using haf
          clear haf
          go_wp2_with fail
          go_ret
          exact ⟨by rw [Hv.out] <;> rfl, hb4⟩
      · obtain rfl : k = l.length := by omega
        have Hv := Lib.hid (show pf = 0 by rw [HPF.out, firstErr_zero hz.out])
        go_wp2_with fail
        go_ret
        exact ⟨by rw [Hv.out] <;> rfl, hb⟩
  · rw [if_pos hcf] at HPF
    have hcf' : (cf != 0) = true := by simpa using hcf
    clear hcf
    go_wp2_with fail
    go_ret
    exact ⟨by rw [HPF.out] <;> rfl, hb1'⟩
theorem infoArvM : (Tryz.prog.info? 63).map (fun i => (i.zero, i.size, i.bytes)) = some (some (.agg #[.string ⟨#[]⟩, .int .i64 0, .int .i64 0, .string ⟨#[]⟩, .string ⟨#[]⟩]), 5, 64) := by kernel_rfl
/-- Arrivals are made. -/
def SomeArrs (S : Nat) (B : Int) (n : Nat) (w : World) (e : Ending) (w' : World) : Prop :=
  ∃ (v : Value) (l : List Arv), e = .returned v ∧ l.length ≤ n ∧ (∀ x ∈ l, ArvOk x) ∧ Own w.heap.size 63 w' v l ∧ Stp S w w' ∧ Strm S B w'
set_option maxRecDepth 100000 in
set_option maxHeartbeats 4000000 in
theorem arrivals_any (S : Nat) (B : Int) (n : Nat) (w : World) (hs : Strm S B w) (hB : B ≤ 999000000) (hn : n ≤ 100) :
    Calls Tryz.prog 6 #[.pointer (some ⟨S, 0, none⟩), .int .i64 n] w (SomeArrs S (B + 1 + 8 * n) n w) := by
  have hSl := hs.lt
  go_enter Tryz.func6, Tryz.ntmps6
  have hw1 : IntKind.i64.wrap ((n : Int) + 1) = (n : Int) + 1 := IntWalk.i64_in _ (by omega)
  go_wp2_with fail
  refine (next_any S B ((n : Int) + 1) _ hs (by omega) (by omega) (by omega)).mono ?_
  rintro e w1 ⟨r, ⟨hr, hr2⟩, rfl, h1, s1⟩
  obtain ⟨m, rfl⟩ := Int.eq_ofNat_of_zero_le hr
  have hm : m ≤ n := by omega
  clear hs hr hr2
  have hz1 := h1.size
  go_wp2_with fail
  go_loopg [5, 10] m (fun gk v i wr => ∃ (k : Nat) (l : List Arv), i = .int .i64 k ∧ k ≤ m ∧ Hid (gk = m - k) ∧ Hid (l.length = k) ∧ Hid (∀ x ∈ l, ArvOk x) ∧ Own w.heap.size 63 wr v l ∧ Stp S w wr ∧ Strm S (B + 1 + 8 * k) wr)
  case atStart => exact ⟨0, [], rfl, by omega, rfl, rfl, (fun x hx => by cases hx), Own.nil _ _ _, h1, s1.mono (by omega)⟩
  case round =>
    clear h1 s1
    obtain ⟨k, l, rfl, hk, hgk, hlk, hok, hown, hst, hsm⟩ := hrel
    have hzr := hst.size
    by_cases hlt : k < m
    · go_wp2_with fail
      refine (arrival_any S (B + 1 + 8 * k) _ hsm (by omega)).mono ?_
      rintro e w2 ⟨p, t, kd, r, x, rfl, hb, h2, s2⟩
      have hz2 := h2.size
      have hst2 := hst.trans h2
      have hown2 := hown.stp h2 (by omega)
      have Hok2 : Hid (∀ y ∈ l ++ [(p, t, kd, r, x)], ArvOk y) := fun y hy => by
        rcases List.mem_append.1 hy with hy | hy
        · exact hok.out y hy
        · rw [List.mem_singleton] at hy
          subst hy
          obtain ⟨b1, b2, b3, b4, b5, b6, b7⟩ := hb
          exact ⟨b1, b2, b3, b4, b5, b6, b7⟩
      have Hlk2 : Hid ((l ++ [(p, t, kd, r, x)]).length = k + 1) := by show _ = _; rw [List.length_append, hlk.out]; rfl
      have HlO := Lib.hid hown2.lt
      have hll : l.length ≤ 100 := by rw [hlk.out]; omega
      clear hst hown hsm h2 hb hok
      unfold arrAgg
      go_wp2_with (at_builtin; refine wpList_append_one rfl _ _ 30 rfl w.heap.size 63 64 (.agg #[.string ⟨#[]⟩, .int .i64 0, .int .i64 0, .string ⟨#[]⟩, .string ⟨#[]⟩]) Tryz.underlying30 infoArvM rfl _ l rfl (hown2.alloc _) (p, t, kd, r, x) _ rfl (Box.newAt _ _ _ _ rfl) (by omega) (by omega) (by simp; omega) ?_; intro v' w3 hown3 hg3)
      have s3 : Strm S (B + 1 + 8 * k + 8) w3 := (s2.alloc _).grown hg3 (fun j hj => by have := (HlO.out j hj).1; omega)
      have hst3 : Stp S w w3 := (hst2.alloc _).grown hg3 (fun j hj => .inr (HlO.out j hj).1)
      go_roundg (m - (k + 1))
      case measure => have := hgk.out; omega
      case rel => exact ⟨k + 1, l ++ [(p, t, kd, r, x)], by go_num, by omega, rfl, Hlk2, Hok2, hown3, hst3, s3.mono (by omega)⟩
    · obtain rfl : k = m := by omega
      go_wp2_with fail
      go_ret
      exact ⟨_, l, rfl, by rw [hlk.out]; omega, hok.out, hown, hst, hsm.mono (by omega)⟩
end Go.Proofs.YtifflpilnpcmoaaGreatDoor
