/- What there is of a paper at a moment: of the program. -/
import Derived.Test.YtifflpilnpcmoaaGreatDoorSortA
namespace Go.Proofs.YtifflpilnpcmoaaGreatDoor
open Go.RowKit
set_option linter.unusedVariables false
set_option linter.unusedSimpArgs false

def entAgg (x : Ent5) : Value := .agg #[.string x.1, .int .i64 x.2.1, .string x.2.2.1, .string x.2.2.2.1, .int .i64 x.2.2.2.2]
/-- A pointer to an arrival, or nil. -/
def PtrIs (w : World) (v : Value) (o : Option Arv) : Prop :=
  (o = none ∧ v = .pointer none) ∨ ∃ (x : Arv) (b off : Nat), o = some x ∧ v = .pointer (some ⟨b, off, none⟩) ∧ w.cell? ⟨b, off, none⟩ = some (.string x.1) ∧ w.cell? ⟨b, off + 1, none⟩ = some (.int .i64 x.2.1) ∧ w.cell? ⟨b, off + 2, none⟩ = some (.int .i64 x.2.2.1) ∧ w.cell? ⟨b, off + 3, none⟩ = some (.string x.2.2.2.1) ∧ w.cell? ⟨b, off + 4, none⟩ = some (.string x.2.2.2.2)
theorem PtrIs.below {w w' : World} {v : Value} {o : Option Arv} (h : PtrIs w v o) (hb : Below w.heap.size w w') : PtrIs w' v o := by
  rcases h with h | ⟨x, b, off, h1, h2, c0, c1, c2, c3, c4⟩
  · exact .inl h
  · exact .inr ⟨x, b, off, h1, h2, cell_later hb c0, cell_later hb c1, cell_later hb c2, cell_later hb c3, cell_later hb c4⟩
theorem PtrIs.isSome {w : World} {v : Value} {x : Arv} (h : PtrIs w v (some x)) : ∃ (b off : Nat), v = .pointer (some ⟨b, off, none⟩) ∧ w.cell? ⟨b, off, none⟩ = some (.string x.1) ∧ w.cell? ⟨b, off + 1, none⟩ = some (.int .i64 x.2.1) ∧ w.cell? ⟨b, off + 2, none⟩ = some (.int .i64 x.2.2.1) ∧ w.cell? ⟨b, off + 3, none⟩ = some (.string x.2.2.2.1) ∧ w.cell? ⟨b, off + 4, none⟩ = some (.string x.2.2.2.2) := by
  rcases h with ⟨h, _⟩ | ⟨x', b, off, h1, h2, h3⟩
  · cases h
  · cases h1; exact ⟨b, off, h2, h3⟩
theorem PtrIs.isNone {w : World} {v : Value} (h : PtrIs w v none) : v = .pointer none := by
  rcases h with ⟨_, h⟩ | ⟨x', b, off, h1, _⟩
  · exact h
  · cases h1
/-- The last arrivals of the kinds 1 to 3, as pointers. -/
def LastV (w : World) (vs : Array Value) (f : Int → Option Arv) : Prop := vs.size = 4 ∧ ∀ q : Nat, 1 ≤ q → q ≤ 3 → ∃ v, vs[q]? = some v ∧ PtrIs w v (f q)
theorem LastV.nil (w : World) {f : Int → Option Arv} (hf : ∀ q, f q = none) : LastV w #[.pointer none, .pointer none, .pointer none, .pointer none] f := by
  refine ⟨rfl, fun q h1 h2 => ⟨.pointer none, ?_, .inl ⟨hf _, rfl⟩⟩⟩
  obtain rfl | rfl | rfl : q = 1 ∨ q = 2 ∨ q = 3 := by omega
  all_goals rfl
theorem LastV.put {w : World} {vs : Array Value} {f g : Int → Option Arv} (h : LastV w vs f) {n : Nat} {v : Value} {x : Arv} (hn : n ≤ 3) (hp : PtrIs w v (some x)) (hg : ∀ q : Int, g q = if q = n then some x else f q) : LastV w (vs.setIfInBounds n v) g := by
  refine ⟨by rw [Array.size_setIfInBounds]; exact h.1, fun q h1 h2 => ?_⟩
  rw [hg]
  by_cases e : q = n
  · subst e
    rw [if_pos rfl]
    exact ⟨v, by rw [Array.getElem?_setIfInBounds_self, if_pos (by have := h.1; omega)], hp⟩
  · rw [if_neg (by omega)]
    obtain ⟨u, hu, hpu⟩ := h.2 q h1 h2
    exact ⟨u, by rw [Array.getElem?_setIfInBounds_ne (by omega)]; exact hu, hpu⟩
theorem LastV.congr {w : World} {vs : Array Value} {f g : Int → Option Arv} (h : LastV w vs f) (hg : ∀ q, g q = f q) : LastV w vs g := ⟨h.1, fun q h1 h2 => by rw [hg]; exact h.2 q h1 h2⟩
def lastAt (m : List Arv) (t q : Int) (k : Nat) : Option Arv := (lastI m t q k).bind (fun i => m[i]?)
theorem lastAt_yes {m : List Arv} {t : Int} {k : Nat} (hk : k < m.length) (h : m[k].2.1 ≤ t) (q : Int) : lastAt m t q (k + 1) = if q = m[k].2.2.1 then some m[k] else lastAt m t q k := by
  unfold lastAt
  by_cases hq : q = m[k].2.2.1
  · rw [if_pos hq, lastI_yes hk (by unfold pickB; rw [decide_eq_true hq.symm, decide_eq_true h]; rfl), Option.bind_some, List.getElem?_eq_getElem hk]
  · rw [if_neg hq, lastI_no hk (by unfold pickB; rw [decide_eq_false (fun e => hq e.symm)]; rfl)]
theorem lastAt_no {m : List Arv} {t : Int} {k : Nat} (hk : k < m.length) (h : ¬ m[k].2.1 ≤ t) (q : Int) : lastAt m t q (k + 1) = lastAt m t q k := by
  unfold lastAt
  rw [lastI_no hk (by unfold pickB; rw [decide_eq_false h, Bool.and_false])]
theorem lastA_at (m : List Arv) (t q : Int) : lastA m t q = lastAt m t q m.length := rfl
theorem SA.blk {α : Type} [Cel α] {w : World} {a : Option Addr} {l : List α} (h : SA w a l) {i : Nat} (hi : i < l.length) : ∀ x : Addr, a = some x → x.block < w.heap.size := fun x hx => by
  obtain ⟨b, off, rfl, hc⟩ := h.at hi
  cases hx
  have := hc 0 Cel.pos
  rw [List.getElem?_eq_getElem (by rw [Cel.len]; exact Cel.pos)] at this
  exact cell_lt this
theorem lastA_kind {m : List Arv} {t q : Int} {x : Arv} (h : lastA m t q = some x) : x ∈ m ∧ x.2.2.1 = q := by
  unfold lastA at h
  rcases lastI_spec m t q m.length (Nat.le_refl _) with ⟨h1, -⟩ | ⟨i, hi, h1, -, h3, -⟩
  · rw [h1] at h; cases h
  · rw [h1, Option.bind_some, List.getElem?_eq_getElem hi] at h
    cases h
    unfold pickB at h3
    rw [Bool.and_eq_true, decide_eq_true_eq] at h3
    exact ⟨List.getElem_mem _, h3.1⟩
/-- The newest, one after another. -/
def newTo (a : Arv) (fu ba : Option Arv) : Nat → Arv
  | 0 => a
  | 1 => newF a fu
  | _ => newest a fu ba
theorem newF_one {a : Arv} {o : Option Arv} : newF a o = a ∨ o = some (newF a o) := by
  unfold newF
  cases o with
  | none => exact .inl rfl
  | some f =>
    dsimp only
    split
    · exact .inr rfl
    · exact .inl rfl
theorem newF_none (a : Arv) : newF a none = a := rfl
theorem newF_yes {a x : Arv} (h : 0 < cmpO x a) : newF a (some x) = x := if_pos h
theorem newF_no {a x : Arv} (h : ¬ 0 < cmpO x a) : newF a (some x) = a := if_neg h
theorem newTo_succ (a : Arv) (fu ba : Option Arv) {k : Nat} (hk : k < 2) : newTo a fu ba (k + 1) = newF (newTo a fu ba k) (if k = 0 then fu else ba) := by
  obtain rfl | rfl : k = 0 ∨ k = 1 := by omega
  all_goals rfl
/-- Where the newest is a withdrawal. -/
theorem back_kind {a : Arv} {fu ba : Option Arv} (ha : a.2.2.1 = 1) (hf : ∀ x, fu = some x → x.2.2.1 = 2) (hb : ∀ x, ba = some x → x.2.2.1 = 3) : isBack a fu ba = decide ((newest a fu ba).2.2.1 = 3) := by
  have h1 : (newF a fu).2.2.1 ≠ 3 := by
    rcases newF_one (a := a) (o := fu) with h | h
    · rw [h]; omega
    · have := hf _ h; omega
  unfold isBack newest
  cases ba with
  | none => rw [newF_none]; exact (decide_eq_false h1).symm
  | some b =>
    have hb3 := hb b rfl
    dsimp only
    by_cases h : 0 < cmpO b (newF a fu)
    · rw [newF_yes h, decide_eq_true h, decide_eq_true hb3]
    · rw [newF_no h, decide_eq_false h, decide_eq_false h1]
set_option maxRecDepth 100000 in
set_option maxHeartbeats 8000000 in
theorem entryP_any (m : List Arv) (a : Option Addr) (cap : Nat) (id : ByteArray) (t : Int) (w : World) (hs : SA w a m) (hl : m.length ≤ 1000000) (hkd : ∀ x ∈ m, 1 ≤ x.2.2.1 ∧ x.2.2.1 ≤ 3) (hone : ∀ x ∈ m, x.1 = id) :
    Calls Tryz.prog 40 #[.slice a m.length cap, .string id, .int .i64 t] w (Gives (entAgg (entL m id t)) w) := by
  have HE := Lib.hid (show entL m id t = entV id (lastA m t 1) (lastA m t 2) (lastA m t 3) from rfl)
  have HK1 := Lib.hid (fun x h => lastA_kind (m := m) (t := t) (q := 1) (x := x) h)
  have HK2 := Lib.hid (fun x h => lastA_kind (m := m) (t := t) (q := 2) (x := x) h)
  have HK3 := Lib.hid (fun x h => lastA_kind (m := m) (t := t) (q := 3) (x := x) h)
  have Hkd := Lib.hid hkd
  have Hone := Lib.hid hone
  clear hkd hone
  generalize entL m id t = en at *
  have HLA := Lib.hid (fun q => lastA_at m t q)
  have HLy := Lib.hid (fun (k : Nat) (hk : k < m.length) (h : m[k].2.1 ≤ t) => lastAt_yes hk h)
  have HLn := Lib.hid (fun (k : Nat) (hk : k < m.length) (h : ¬ m[k].2.1 ≤ t) => lastAt_no hk h)
  have hR0 := ((Box.new w 35 #[.string ⟨#[]⟩, .int .i64 0, .string ⟨#[]⟩, .string ⟨#[]⟩, .int .i64 0]).alloc (.cells #[.string id, .int .i64 1, .string ⟨#[]⟩, .string ⟨#[]⟩, .int .i64 0] 35)).alloc (.cells #[.pointer none, .pointer none, .pointer none, .pointer none] 89)
  have hO0 := (Box.newAt (w.alloc (.cells #[.string ⟨#[]⟩, .int .i64 0, .string ⟨#[]⟩, .string ⟨#[]⟩, .int .i64 0] 35)) (w.heap.size + 1) 35 #[.string id, .int .i64 1, .string ⟨#[]⟩, .string ⟨#[]⟩, .int .i64 0] (by simp)).alloc (.cells #[.pointer none, .pointer none, .pointer none, .pointer none] 89)
  have hL0 := Box.newAt ((w.alloc (.cells #[.string ⟨#[]⟩, .int .i64 0, .string ⟨#[]⟩, .string ⟨#[]⟩, .int .i64 0] 35)).alloc (.cells #[.string id, .int .i64 1, .string ⟨#[]⟩, .string ⟨#[]⟩, .int .i64 0] 35)) (w.heap.size + 1 + 1) 89 #[.pointer none, .pointer none, .pointer none, .pointer none] (by simp)
  have hb0 : Below w.heap.size w (((w.alloc (.cells #[.string ⟨#[]⟩, .int .i64 0, .string ⟨#[]⟩, .string ⟨#[]⟩, .int .i64 0] 35)).alloc (.cells #[.string id, .int .i64 1, .string ⟨#[]⟩, .string ⟨#[]⟩, .int .i64 0] 35)).alloc (.cells #[.pointer none, .pointer none, .pointer none, .pointer none] 89)) := by (repeat' (first | exact Below.refl _ _ | assumption | refine Below.setCell ?_ ?_ _ | refine below_drewN ?_ _ | refine Below.drew ?_ | refine Below.alloc ?_ ?_ _ | (with_reducible refine Below.trans ?_ (Below.mono hb ?_)) | (with_reducible refine Below.trans ?_ (Below.mono hb0 ?_)) | (with_reducible refine Below.trans ?_ (Below.mono hb1 ?_)) | (with_reducible refine Below.trans ?_ (Below.mono hb2 ?_)) | (with_reducible refine Below.trans ?_ (Below.mono hb3 ?_)) | (with_reducible refine Below.trans ?_ (Below.mono hb4 ?_)) | (with_reducible refine Below.trans ?_ (Below.mono hb5 ?_)) | (with_reducible refine Below.trans ?_ (Below.mono hb6 ?_)) | (with_reducible refine Below.trans ?_ (Below.mono hb7 ?_)) | (with_reducible refine Below.trans ?_ (Below.mono hb8 ?_)) | (with_reducible refine Below.trans ?_ (Below.mono hb9 ?_)) | (with_reducible refine Below.trans ?_ (Below.mono hb10 ?_)) | (with_reducible refine Below.trans ?_ (Below.mono hb11 ?_)) | (with_reducible refine Below.trans ?_ (Below.mono hb12 ?_)) | (with_reducible refine Below.trans ?_ (Below.mono hb13 ?_)) | (with_reducible refine Below.trans ?_ (Below.mono hb14 ?_)) | (with_reducible refine Below.trans ?_ (Below.mono hb15 ?_)) | omega | (simp; done) | (simp; omega)))
  go_enter Tryz.func40, Tryz.ntmps40
  go_wp2_with fail
  go_loopg [18] m.length (fun gk i wr => ∃ (k : Nat) (vs : Array Value), i = .int .i64 k ∧ k ≤ m.length ∧ Hid (gk = m.length - k) ∧ Hid (LastV w vs (fun q => lastAt m t q k)) ∧ Box wr (w.heap.size + 1 + 1) 89 vs ∧ Box wr w.heap.size 35 #[.string ⟨#[]⟩, .int .i64 0, .string ⟨#[]⟩, .string ⟨#[]⟩, .int .i64 0] ∧ Box wr (w.heap.size + 1) 35 #[.string id, .int .i64 1, .string ⟨#[]⟩, .string ⟨#[]⟩, .int .i64 0] ∧ Below w.heap.size w wr)
  case atStart => exact ⟨0, _, rfl, by omega, rfl, LastV.nil w (fun q => rfl), hL0, hR0, hO0, hb0⟩
  case round =>
    clear hR0 hO0 hL0 hb0
    obtain ⟨k, vs, rfl, hk, hgk, hLV, hL, hR, hO, hb⟩ := hrel
    have hz := hb.size
    by_cases hlt : k < m.length
    · obtain ⟨b, off, ha, d0, d1, d2, d3, d4⟩ := hs.arv hlt
      obtain ⟨b', off', ha', c0, c1, c2, c3, c4⟩ := (hs.below hb).arv hlt
      rw [ha] at ha'
      cases ha'
      obtain ⟨q1, q2⟩ := Hkd.out m[k] (List.getElem_mem hlt)
      have HLyk := Lib.hid (HLy.out k hlt)
      have HLnk := Lib.hid (HLn.out k hlt)
      obtain ⟨n, hn⟩ : ∃ n : Nat, m[k].2.2.1 = (n : Int) := ⟨m[k].2.2.1.toNat, by omega⟩
      have hP : PtrIs w (.pointer (some ⟨b, off + k * 5, none⟩)) (some m[k]) := .inr ⟨_, b, off + k * 5, rfl, rfl, d0, d1, d2, d3, d4⟩
      have HP := Lib.hid hP
      rw [hn] at c2 q1 q2
      have Hn := Lib.hid hn
      clear d0 d1 d2 d3 d4 hP hn c0 c3 c4
      rw [ha]
      generalize hx : m[k] = x at *
      have Hx := Lib.hid hx
      clear hx
      by_cases hle : x.2.1 ≤ t
      · have hn1 : n ≤ 3 := by omega
        have hn2 : (0 : Int) ≤ (n : Int) := by omega
        have hn3 : (n : Int) < 4 := by omega
        have hfr := hL.frozen n
        obtain ⟨cn, hcn⟩ : ∃ cn, wr.cell? ⟨w.heap.size + 1 + 1, n, none⟩ = some cn := by
          rw [hL.cell n]
          exact ⟨_, Array.getElem?_eq_getElem (by have := hLV.out.1; omega)⟩
        have HLV2 : Hid (LastV w (vs.setIfInBounds n (.pointer (some ⟨b, off + k * 5, none⟩))) (fun q => lastAt m t q (k + 1))) := hLV.out.put hn1 HP.out (fun q => by rw [HLyk.out hle, Hn.out])
        have hL2 := hL.set n (.pointer (some ⟨b, off + k * 5, none⟩))
        have hR2 := hR.setOther (p := ⟨w.heap.size + 1 + 1, n, none⟩) (by show w.heap.size + 1 + 1 ≠ w.heap.size; omega) (.pointer (some ⟨b, off + k * 5, none⟩))
        have hO2 := hO.setOther (p := ⟨w.heap.size + 1 + 1, n, none⟩) (by show w.heap.size + 1 + 1 ≠ w.heap.size + 1; omega) (.pointer (some ⟨b, off + k * 5, none⟩))
        have hdl : decide (x.2.1 ≤ t) = true := decide_eq_true hle
        clear hle
        go_upto_region 7 with (fail)
        refine wp_region_held_drew (S := (fun wx => wx.cell? ⟨b, off + k * 5 + 2, none⟩ = some (.int .i64 n))) (by kernel_rfl) ?hS (fun hHeld => ?_)
        case hS => exact c2
        refine rtake (i := 0) (d := (some 28)) (v := ?_) rfl (by kernel_rfl) (by kernel_rfl) (by kernel_rfl) (by kernel_rfl) (fun _ _ _ h => h) (by kernel_rfl) (by assumption) ?_ ?_
        rotate_left 1
        · (intro wI hSI; (try dsimp only at hSI); go_simp; (try with_reducible rfl))
        simp only [Act.put, List.setIfInBounds_toArray, List.set_cons_zero, List.set_cons_succ]
        refine rtake (i := 1) (d := (some 29)) (v := ?_) rfl (by kernel_rfl) (by kernel_rfl) (by kernel_rfl) (by kernel_rfl) (fun _ _ _ h => h) (by kernel_rfl) (by assumption) ?_ ?_
        rotate_left 1
        · (intro wI hSI; (try dsimp only at hSI); go_simp; (try with_reducible rfl))
        simp only [Act.put, List.setIfInBounds_toArray, List.set_cons_zero, List.set_cons_succ]
        refine rtake (i := 2) (d := (some 30)) (v := ?_) rfl (by kernel_rfl) (by kernel_rfl) (by kernel_rfl) (by kernel_rfl) (fun _ _ _ h => h) (by kernel_rfl) (by assumption) ?_ ?_
        rotate_left 1
        · (intro wI hSI; (try dsimp only at hSI); go_simp; (try with_reducible rfl))
        simp only [Act.put, List.setIfInBounds_toArray, List.set_cons_zero, List.set_cons_succ]
        refine rtake (i := 3) (d := (some 31)) (v := ?_) rfl (by kernel_rfl) (by kernel_rfl) (by kernel_rfl) (by kernel_rfl) (fun _ _ _ h => h) (by kernel_rfl) (by assumption) ?_ ?_
        rotate_left 1
        · (intro wI hSI; (try dsimp only at hSI); go_simp; (try with_reducible rfl))
        simp only [Act.put, List.setIfInBounds_toArray, List.set_cons_zero, List.set_cons_succ]
        refine rtake (i := 4) (d := (some 32)) (v := ?_) rfl (by kernel_rfl) (by kernel_rfl) (by kernel_rfl) (by kernel_rfl) (fun _ _ _ h => h) (by kernel_rfl) (by assumption) ?_ ?_
        rotate_left 1
        · (intro wI hSI; (try dsimp only at hSI); go_simp; (try with_reducible rfl))
        simp only [Act.put, List.setIfInBounds_toArray, List.set_cons_zero, List.set_cons_succ]
        refine rtake (i := 5) (d := (some 33)) (v := ?_) rfl (by kernel_rfl) (by kernel_rfl) (by kernel_rfl) (by kernel_rfl) (fun _ _ _ h => h) (by kernel_rfl) (by assumption) ?_ ?_
        rotate_left 1
        · (intro wI hSI; (try dsimp only at hSI); go_simp; (try with_reducible rfl))
        simp only [Act.put, List.setIfInBounds_toArray, List.set_cons_zero, List.set_cons_succ]
        refine rtake (i := 6) (d := (some 34)) (v := ?_) rfl (by kernel_rfl) (by kernel_rfl) (by kernel_rfl) (by kernel_rfl) (fun _ _ _ h => h) (by kernel_rfl) (by assumption) ?_ ?_
        rotate_left 1
        · (intro wI hSI; (try dsimp only at hSI); go_simp; (try with_reducible rfl))
        simp only [Act.put, List.setIfInBounds_toArray, List.set_cons_zero, List.set_cons_succ]
        refine rtake (i := 7) (d := (some 35)) (v := ?_) rfl (by kernel_rfl) (by kernel_rfl) (by kernel_rfl) (by kernel_rfl) (fun _ _ _ h => h) (by kernel_rfl) (by assumption) ?_ ?_
        rotate_left 1
        · (intro wI hSI; (try dsimp only at hSI); go_simp; (try with_reducible rfl))
        simp only [Act.put, List.setIfInBounds_toArray, List.set_cons_zero, List.set_cons_succ]
        refine rtake (i := 8) (d := (some 36)) (v := ?_) rfl (by kernel_rfl) (by kernel_rfl) (by kernel_rfl) (by kernel_rfl) (fun _ _ _ h => h) (by kernel_rfl) (by assumption) ?_ ?_
        rotate_left 1
        · (intro wI hSI; (try dsimp only at hSI); go_simp; (try with_reducible rfl))
        simp only [Act.put, List.setIfInBounds_toArray, List.set_cons_zero, List.set_cons_succ]
        refine rcall (i := 9) (d := none) (by kernel_rfl) rfl (by kernel_rfl) (fun K hK => ?_)
        go_simp
        refine hK.out undef _ ?hS (fun hHeld => ?_)
        case hS => exact (by rw [← c2]; exact World.cell?_of_block (Below.heap_setCell _ _ _ _ (by show b ≠ w.heap.size + 1 + 1; have := hs.blk hlt _ ha; simp at this; omega)))
        clear hK K
        simp only [Act.put, List.setIfInBounds_toArray, List.set_cons_zero, List.set_cons_succ]
        refine wpAnyH_done (by kernel_rfl) ?_ _
        go_wp2_with fail
        rw [← ha]
        go_roundg (m.length - (k + 1))
        case measure => have := hgk.out; omega
        case rel => exact ⟨k + 1, _, by go_num, by omega, rfl, HLV2, hL2.drew, hR2.drew, hO2.drew, by (repeat' (first | exact Below.refl _ _ | assumption | refine Below.setCell ?_ ?_ _ | refine below_drewN ?_ _ | refine Below.drew ?_ | refine Below.alloc ?_ ?_ _ | (with_reducible refine Below.trans ?_ (Below.mono hb ?_)) | (with_reducible refine Below.trans ?_ (Below.mono hb0 ?_)) | (with_reducible refine Below.trans ?_ (Below.mono hb1 ?_)) | (with_reducible refine Below.trans ?_ (Below.mono hb2 ?_)) | (with_reducible refine Below.trans ?_ (Below.mono hb3 ?_)) | (with_reducible refine Below.trans ?_ (Below.mono hb4 ?_)) | (with_reducible refine Below.trans ?_ (Below.mono hb5 ?_)) | (with_reducible refine Below.trans ?_ (Below.mono hb6 ?_)) | (with_reducible refine Below.trans ?_ (Below.mono hb7 ?_)) | (with_reducible refine Below.trans ?_ (Below.mono hb8 ?_)) | (with_reducible refine Below.trans ?_ (Below.mono hb9 ?_)) | (with_reducible refine Below.trans ?_ (Below.mono hb10 ?_)) | (with_reducible refine Below.trans ?_ (Below.mono hb11 ?_)) | (with_reducible refine Below.trans ?_ (Below.mono hb12 ?_)) | (with_reducible refine Below.trans ?_ (Below.mono hb13 ?_)) | (with_reducible refine Below.trans ?_ (Below.mono hb14 ?_)) | (with_reducible refine Below.trans ?_ (Below.mono hb15 ?_)) | omega | (simp; done) | (simp; omega)))⟩
      · have hdl : decide (x.2.1 ≤ t) = false := decide_eq_false hle
        have HLV2 : Hid (LastV w vs (fun q => lastAt m t q (k + 1))) := hLV.out.congr (fun q => HLnk.out (by omega) q)
        clear hle
        go_wp2_with fail
        rw [← ha]
        go_roundg (m.length - (k + 1))
        case measure => have := hgk.out; omega
        case rel => exact ⟨k + 1, vs, by go_num, by omega, rfl, HLV2, hL, hR, hO, hb⟩
    · obtain rfl : k = m.length := by omega
      have HV : Hid (LastV w vs (fun q => lastA m t q)) := hLV.out
      obtain ⟨v1, e1, P1⟩ := HV.out.2 1 (by omega) (by omega)
      obtain ⟨v2, e2, P2⟩ := HV.out.2 2 (by omega) (by omega)
      obtain ⟨v3, e3, P3⟩ := HV.out.2 3 (by omega) (by omega)
      replace P1 : Hid (PtrIs w v1 (lastA m t 1)) := P1
      replace P2 : Hid (PtrIs w v2 (lastA m t 2)) := P2
      replace P3 : Hid (PtrIs w v3 (lastA m t 3)) := P3
      have E1 := Lib.hid e1
      have E2 := Lib.hid e2
      have E3 := Lib.hid e3
      have Hvz := Lib.hid HV.out.1
      have hl1 := hL.cell 1
      rw [e1] at hl1
      clear hLV HV HLA HLy HLn e1 e2 e3
      generalize lastA m t 1 = ab at *
      generalize lastA m t 2 = fu at *
      generalize lastA m t 3 = ba at *
      cases ab with
      | none =>
        obtain rfl := P1.out.isNone
        have He : Hid (en = (id, 1, ⟨#[]⟩, ⟨#[]⟩, 0)) := HE.out
        go_upto_region 10 with (fail)
        have hR_l := hR.lt; have hR_0 := hR.cell 0; have hR_1 := hR.cell 1; have hR_2 := hR.cell 2; have hR_3 := hR.cell 3; have hR_4 := hR.cell 4; simp at hR_0 hR_1 hR_2 hR_3 hR_4
        have hR_f0 := hR.frozen 0; have hR_f1 := hR.frozen 1; have hR_f2 := hR.frozen 2; have hR_f3 := hR.frozen 3; have hR_f4 := hR.frozen 4
        have hO_l := hO.lt; have hO_0 := hO.cell 0; have hO_1 := hO.cell 1; have hO_2 := hO.cell 2; have hO_3 := hO.cell 3; have hO_4 := hO.cell 4; simp at hO_0 hO_1 hO_2 hO_3 hO_4
        go_wp2_with fail
        refine bodyPost_ret (v := entAgg (id, 1, ⟨#[]⟩, ⟨#[]⟩, 0)) (by simp only [results, Tryz.results40]; go_simp; first | rfl | simp [entAgg]) rfl ?_
        refine ⟨?_, by (repeat' (first | exact Below.refl _ _ | assumption | refine Below.setCell ?_ ?_ _ | refine below_drewN ?_ _ | refine Below.drew ?_ | refine Below.alloc ?_ ?_ _ | (with_reducible refine Below.trans ?_ (Below.mono hb ?_)) | (with_reducible refine Below.trans ?_ (Below.mono hb0 ?_)) | (with_reducible refine Below.trans ?_ (Below.mono hb1 ?_)) | (with_reducible refine Below.trans ?_ (Below.mono hb2 ?_)) | (with_reducible refine Below.trans ?_ (Below.mono hb3 ?_)) | (with_reducible refine Below.trans ?_ (Below.mono hb4 ?_)) | (with_reducible refine Below.trans ?_ (Below.mono hb5 ?_)) | (with_reducible refine Below.trans ?_ (Below.mono hb6 ?_)) | (with_reducible refine Below.trans ?_ (Below.mono hb7 ?_)) | (with_reducible refine Below.trans ?_ (Below.mono hb8 ?_)) | (with_reducible refine Below.trans ?_ (Below.mono hb9 ?_)) | (with_reducible refine Below.trans ?_ (Below.mono hb10 ?_)) | (with_reducible refine Below.trans ?_ (Below.mono hb11 ?_)) | (with_reducible refine Below.trans ?_ (Below.mono hb12 ?_)) | (with_reducible refine Below.trans ?_ (Below.mono hb13 ?_)) | (with_reducible refine Below.trans ?_ (Below.mono hb14 ?_)) | (with_reducible refine Below.trans ?_ (Below.mono hb15 ?_)) | omega | (simp; done) | (simp; omega)))⟩
        rw [He.out]
      | some a1 =>
        have hIds : Hid (a1.1 = id ∧ (∀ x, fu = some x → x.1 = id) ∧ ∀ x, ba = some x → x.1 = id) := ⟨Hone.out _ (HK1.out _ rfl).1, fun x h => Hone.out _ (HK2.out x h).1, fun x h => Hone.out _ (HK3.out x h).1⟩
        have HBk := Lib.hid (back_kind (HK1.out _ rfl).2 (fun x h => (HK2.out x h).2) (fun x h => (HK3.out x h).2))
        clear HK1 HK2 HK3 Hkd Hone
        have hp1 := P1.out
        obtain ⟨b1, o1, rfl, z0, z1, z2, z3, z4⟩ := P1.out.isSome
        have D4 := Lib.hid z4
        clear z0 z1 z2 z3 z4
        go_wp2_with fail
        go_loopg [10, 46] 2 (fun gj nv i wr => ∃ (j : Nat), i = .int .i64 j ∧ j ≤ 2 ∧ Hid (gj = 2 - j) ∧ Hid (PtrIs w nv (some (newTo a1 fu ba j))) ∧ Hid ((newTo a1 fu ba j).1 = id) ∧ Box wr (w.heap.size + 1 + 1) 89 vs ∧ Box wr w.heap.size 35 #[.string ⟨#[]⟩, .int .i64 0, .string ⟨#[]⟩, .string ⟨#[]⟩, .int .i64 0] ∧ Box wr (w.heap.size + 1) 35 #[.string id, .int .i64 1, .string ⟨#[]⟩, .string ⟨#[]⟩, .int .i64 0] ∧ Below w.heap.size w wr)
        case atStart => exact ⟨0, rfl, by omega, rfl, hp1, hIds.out.1, hL, hR, hO, hb⟩
        case round =>
          clear hL hR hO hb hl1 hp1 hgk hz hk hlt
          obtain ⟨j, rfl, hj, hgj, hPn, hni, hL, hR, hO, hb⟩ := hrel
          by_cases hlt : j < 2
          · obtain ⟨u, hu, Pu⟩ : ∃ u, wr.cell? ⟨w.heap.size + 1 + 1, 2 + j, none⟩ = some u ∧ PtrIs w u (if j = 0 then fu else ba) := by
              obtain rfl | rfl : j = 0 ∨ j = 1 := by omega
              · exact ⟨v2, by rw [hL.cell]; exact E2.out, P2.out⟩
              · exact ⟨v3, by rw [hL.cell]; exact E3.out, P3.out⟩
            have HN := Lib.hid (newTo_succ a1 fu ba hlt)
            have HF : Hid (∀ x, (if j = 0 then fu else ba) = some x → x.1 = id) := by
              intro x hx
              split at hx
              · exact hIds.out.2.1 x hx
              · exact hIds.out.2.2 x hx
            generalize (if j = 0 then fu else ba) = fj at *
            obtain ⟨nw, hnw⟩ : ∃ nw, newTo a1 fu ba j = nw := ⟨_, rfl⟩
            rw [hnw] at hPn hni HN
            clear hnw
            have hj1 : (0 : Int) ≤ (j : Int) := by omega
            have hj2 : (j : Int) < 2 := by omega
            obtain ⟨bn, on, rfl, n0, n1, n2, n3, n4⟩ := (PtrIs.below hPn.out hb).isSome
            cases fj with
            | none =>
              obtain rfl := Pu.isNone
              have HN2 : Hid (newTo a1 fu ba (j + 1) = nw) := HN.out.trans (newF_none _)
              go_upto_region 15 with (fail)
              go_quiet (fail)
              go_wp2_with fail
              go_roundg (2 - (j + 1))
              case measure => have := hgj.out; omega
              case rel => exact ⟨j + 1, by go_num, by omega, rfl, by show PtrIs _ _ _; rw [HN2.out]; exact hPn.out, by show _ = _; rw [HN2.out]; exact hni.out, by first | exact hL | exact hL.drew | exact hL.drewN _, by first | exact hR | exact hR.drew | exact hR.drewN _, by first | exact hO | exact hO.drew | exact hO.drewN _, by (repeat' (first | exact Below.refl _ _ | assumption | refine Below.setCell ?_ ?_ _ | refine below_drewN ?_ _ | refine Below.drew ?_ | refine Below.alloc ?_ ?_ _ | (with_reducible refine Below.trans ?_ (Below.mono hb ?_)) | (with_reducible refine Below.trans ?_ (Below.mono hb0 ?_)) | (with_reducible refine Below.trans ?_ (Below.mono hb1 ?_)) | (with_reducible refine Below.trans ?_ (Below.mono hb2 ?_)) | (with_reducible refine Below.trans ?_ (Below.mono hb3 ?_)) | (with_reducible refine Below.trans ?_ (Below.mono hb4 ?_)) | (with_reducible refine Below.trans ?_ (Below.mono hb5 ?_)) | (with_reducible refine Below.trans ?_ (Below.mono hb6 ?_)) | (with_reducible refine Below.trans ?_ (Below.mono hb7 ?_)) | (with_reducible refine Below.trans ?_ (Below.mono hb8 ?_)) | (with_reducible refine Below.trans ?_ (Below.mono hb9 ?_)) | (with_reducible refine Below.trans ?_ (Below.mono hb10 ?_)) | (with_reducible refine Below.trans ?_ (Below.mono hb11 ?_)) | (with_reducible refine Below.trans ?_ (Below.mono hb12 ?_)) | (with_reducible refine Below.trans ?_ (Below.mono hb13 ?_)) | (with_reducible refine Below.trans ?_ (Below.mono hb14 ?_)) | (with_reducible refine Below.trans ?_ (Below.mono hb15 ?_)) | omega | (simp; done) | (simp; omega)))⟩
            | some x =>
              have hPu := Lib.hid Pu
              obtain ⟨bx, ox, rfl, x0, x1, x2, x3, x4⟩ := (PtrIs.below Pu hb).isSome
              have HCm := Lib.hid (fun W => compareA_any x nw W)
              have HAO : cmpA x nw = cmpO x nw := cmpA_same ((HF.out x rfl).trans hni.out.symm)
              rw [HAO] at HCm
              have HNy := Lib.hid (fun h => HN.out.trans (newF_yes (a := nw) (x := x) h))
              have HNn := Lib.hid (fun h => HN.out.trans (newF_no (a := nw) (x := x) h))
              have hxi := Lib.hid (HF.out x rfl)
              clear HAO HN HF Pu
              generalize cmpO x nw = cv at *
              go_upto_region 15 with (fail)
              refine wp_region_held_drew (S := (fun wx => wx.cell? ⟨bx, ox, none⟩ = some (.string x.1) ∧ wx.cell? ⟨bx, ox + 1, none⟩ = some (.int .i64 x.2.1) ∧ wx.cell? ⟨bx, ox + 2, none⟩ = some (.int .i64 x.2.2.1) ∧ wx.cell? ⟨bx, ox + 3, none⟩ = some (.string x.2.2.2.1) ∧ wx.cell? ⟨bx, ox + 4, none⟩ = some (.string x.2.2.2.2) ∧ wx.cell? ⟨bn, on, none⟩ = some (.string nw.1) ∧ wx.cell? ⟨bn, on + 1, none⟩ = some (.int .i64 nw.2.1) ∧ wx.cell? ⟨bn, on + 2, none⟩ = some (.int .i64 nw.2.2.1) ∧ wx.cell? ⟨bn, on + 3, none⟩ = some (.string nw.2.2.2.1) ∧ wx.cell? ⟨bn, on + 4, none⟩ = some (.string nw.2.2.2.2) ∧ Below wr.heap.size wr wx)) (by kernel_rfl) ?hS (fun hHeld => ?_)
              case hS => exact ⟨x0, x1, x2, x3, x4, n0, n1, n2, n3, n4, (Below.refl _ _).drew⟩
              refine rtake (i := 0) (d := (some 50)) (v := ?_) rfl (by kernel_rfl) (by kernel_rfl) (by kernel_rfl) (by kernel_rfl) (fun _ _ _ h => h) (by kernel_rfl) (by assumption) ?_ ?_
              rotate_left 1
              · (intro wI hSI; (try dsimp only at hSI); go_simp; (try with_reducible rfl))
              simp only [Act.put, List.setIfInBounds_toArray, List.set_cons_zero, List.set_cons_succ]
              refine rtake (i := 1) (d := (some 51)) (v := ?_) rfl (by kernel_rfl) (by kernel_rfl) (by kernel_rfl) (by kernel_rfl) (fun _ _ _ h => h) (by kernel_rfl) (by assumption) ?_ ?_
              rotate_left 1
              · (intro wI hSI; (try dsimp only at hSI); go_simp; (try with_reducible rfl))
              simp only [Act.put, List.setIfInBounds_toArray, List.set_cons_zero, List.set_cons_succ]
              refine rtake (i := 2) (d := (some 52)) (v := ?_) rfl (by kernel_rfl) (by kernel_rfl) (by kernel_rfl) (by kernel_rfl) (fun _ _ _ h => h) (by kernel_rfl) (by assumption) ?_ ?_
              rotate_left 1
              · (intro wI hSI; (try dsimp only at hSI); go_simp; (try with_reducible rfl))
              simp only [Act.put, List.setIfInBounds_toArray, List.set_cons_zero, List.set_cons_succ]
              refine rtake (i := 3) (d := (some 53)) (v := ?_) rfl (by kernel_rfl) (by kernel_rfl) (by kernel_rfl) (by kernel_rfl) (fun _ _ _ h => h) (by kernel_rfl) (by assumption) ?_ ?_
              rotate_left 1
              · (intro wI hSI; (try dsimp only at hSI); go_simp; (try with_reducible rfl))
              simp only [Act.put, List.setIfInBounds_toArray, List.set_cons_zero, List.set_cons_succ]
              refine rtake (i := 4) (d := (some 54)) (v := ?_) rfl (by kernel_rfl) (by kernel_rfl) (by kernel_rfl) (by kernel_rfl) (fun _ _ _ h => h) (by kernel_rfl) (by assumption) ?_ ?_
              rotate_left 1
              · (intro wI hSI; (try dsimp only at hSI); go_simp; (try with_reducible rfl))
              simp only [Act.put, List.setIfInBounds_toArray, List.set_cons_zero, List.set_cons_succ]
              refine rtake (i := 5) (d := (some 55)) (v := ?_) rfl (by kernel_rfl) (by kernel_rfl) (by kernel_rfl) (by kernel_rfl) (fun _ _ _ h => h) (by kernel_rfl) (by assumption) ?_ ?_
              rotate_left 1
              · (intro wI hSI; (try dsimp only at hSI); go_simp; (try with_reducible rfl))
              simp only [Act.put, List.setIfInBounds_toArray, List.set_cons_zero, List.set_cons_succ]
              refine rtake (i := 6) (d := (some 56)) (v := ?_) rfl (by kernel_rfl) (by kernel_rfl) (by kernel_rfl) (by kernel_rfl) (fun _ _ _ h => h) (by kernel_rfl) (by assumption) ?_ ?_
              rotate_left 1
              · (intro wI hSI; (try dsimp only at hSI); go_simp; (try with_reducible rfl))
              simp only [Act.put, List.setIfInBounds_toArray, List.set_cons_zero, List.set_cons_succ]
              refine rtake (i := 7) (d := (some 57)) (v := ?_) rfl (by kernel_rfl) (by kernel_rfl) (by kernel_rfl) (by kernel_rfl) (fun _ _ _ h => h) (by kernel_rfl) (by assumption) ?_ ?_
              rotate_left 1
              · (intro wI hSI; (try dsimp only at hSI); go_simp; (try with_reducible rfl))
              simp only [Act.put, List.setIfInBounds_toArray, List.set_cons_zero, List.set_cons_succ]
              refine rtake (i := 8) (d := (some 58)) (v := ?_) rfl (by kernel_rfl) (by kernel_rfl) (by kernel_rfl) (by kernel_rfl) (fun _ _ _ h => h) (by kernel_rfl) (by assumption) ?_ ?_
              rotate_left 1
              · (intro wI hSI; (try dsimp only at hSI); go_simp; (try with_reducible rfl))
              simp only [Act.put, List.setIfInBounds_toArray, List.set_cons_zero, List.set_cons_succ]
              refine rcall (i := 9) (d := (some 59)) (by kernel_rfl) rfl (by kernel_rfl) (fun K hK => ?_)
              rw [if_pos (by kernel_rfl)]; go_simp; go_at_call 59; refine (HCm.out _).mono ?_; rintro e w6 ⟨rfl, hb6, -⟩
              refine hK.out _ _ ?hS (fun hHeld => ?_)
              case hS => exact ⟨cell_later hb6 hHeld.1, cell_later hb6 hHeld.2.1, cell_later hb6 hHeld.2.2.1, cell_later hb6 hHeld.2.2.2.1, cell_later hb6 hHeld.2.2.2.2.1, cell_later hb6 hHeld.2.2.2.2.2.1, cell_later hb6 hHeld.2.2.2.2.2.2.1, cell_later hb6 hHeld.2.2.2.2.2.2.2.1, cell_later hb6 hHeld.2.2.2.2.2.2.2.2.1, cell_later hb6 hHeld.2.2.2.2.2.2.2.2.2.1, hHeld.2.2.2.2.2.2.2.2.2.2.trans (hb6.mono hHeld.2.2.2.2.2.2.2.2.2.2.size)⟩
              clear hK K
              simp only [Act.put, List.setIfInBounds_toArray, List.set_cons_zero, List.set_cons_succ]
              refine rtake (i := 10) (d := (some 60)) (v := ?_) rfl (by kernel_rfl) (by kernel_rfl) (by kernel_rfl) (by kernel_rfl) (fun _ _ _ h => h) (by kernel_rfl) (by assumption) ?_ ?_
              rotate_left 1
              · (intro wI hSI; (try dsimp only at hSI); go_simp; (try with_reducible rfl))
              simp only [Act.put, List.setIfInBounds_toArray, List.set_cons_zero, List.set_cons_succ]
              refine rtake (i := 11) (d := (some 61)) (v := ?_) rfl (by kernel_rfl) (by kernel_rfl) (by kernel_rfl) (by kernel_rfl) (fun _ _ _ h => h) (by kernel_rfl) (by assumption) ?_ ?_
              rotate_left 1
              · (intro wI hSI; (try dsimp only at hSI); go_simp; (try with_reducible rfl))
              simp only [Act.put, List.setIfInBounds_toArray, List.set_cons_zero, List.set_cons_succ]
              refine wpAnyH_done (by kernel_rfl) ?_ _
              have hb9 := hHeld.2.2.2.2.2.2.2.2.2.2
              have hL9 := hL.below hb9
              have hR9 := hR.below hb9
              have hO9 := hO.below hb9
              have hbb := below_next hb hb9
              clear hHeld hb6 hb9 hL hR hO hb x0 x1 x2 x3 x4 n0 n1 n2 n3 n4 hu
              by_cases hcv : 0 < cv
              · have HN2 := Lib.hid (HNy.out hcv)
                clear HNy HNn
                go_wp2_with fail
                go_roundg (2 - (j + 1))
                case measure => have := hgj.out; omega
                case rel => exact ⟨j + 1, by go_num, by omega, rfl, by show PtrIs _ _ _; rw [HN2.out]; exact hPu.out, by show _ = _; rw [HN2.out]; exact hxi.out, hL9, hR9, hO9, hbb⟩
              · have HN2 := Lib.hid (HNn.out hcv)
                have hd : cv ≤ 0 := by omega
                clear HNy HNn hcv
                go_wp2_with fail
                go_roundg (2 - (j + 1))
                case measure => have := hgj.out; omega
                case rel => exact ⟨j + 1, by go_num, by omega, rfl, by show PtrIs _ _ _; rw [HN2.out]; exact hPn.out, by show _ = _; rw [HN2.out]; exact hni.out, hL9, hR9, hO9, hbb⟩
          · obtain rfl : j = 2 := by omega
            replace hPn : Hid (PtrIs w u10 (some (newest a1 fu ba))) := hPn.out
            have Hen : Hid (en = (id, if isBack a1 fu ba = true then 4 else if fu.isSome = true then 3 else 2, a1.2.2.2.2, (fu.map (·.2.2.2.2)).getD ⟨#[]⟩, (newest a1 fu ba).2.1)) := HE.out
            rw [HBk.out] at Hen
            clear HE HBk hni hIds P1 P3 E3 hgj
            generalize newest a1 fu ba = nw at *
            obtain ⟨bn, on, rfl, n0, n1, n2, n3, n4⟩ := hPn.out.isSome
            have N1 := Lib.hid n1
            have N2 := Lib.hid n2
            have m1 := cell_later hb n1
            have m4 := cell_later hb D4.out
            clear n0 n1 n2 n3 n4 hPn
            have hl1 := hL.cell 1
            rw [E1.out] at hl1
            have hLa := hL.setOther (p := ⟨w.heap.size + 1, 1, none⟩) (by show w.heap.size + 1 ≠ w.heap.size + 1 + 1; omega) (.int .i64 2)
            have hLb := hLa.setOther (p := ⟨w.heap.size + 1, 2, none⟩) (by show w.heap.size + 1 ≠ w.heap.size + 1 + 1; omega) (.string a1.2.2.2.2)
            have hLc := hLb.setOther (p := ⟨w.heap.size + 1, 4, none⟩) (by show w.heap.size + 1 ≠ w.heap.size + 1 + 1; omega) (.int .i64 nw.2.1)
            have hRc := ((hR.setOther (p := ⟨w.heap.size + 1, 1, none⟩) (by show w.heap.size + 1 ≠ w.heap.size; omega) (.int .i64 2)).setOther (p := ⟨w.heap.size + 1, 2, none⟩) (by show w.heap.size + 1 ≠ w.heap.size; omega) (.string a1.2.2.2.2)).setOther (p := ⟨w.heap.size + 1, 4, none⟩) (by show w.heap.size + 1 ≠ w.heap.size; omega) (.int .i64 nw.2.1)
            have hOc := ((hO.set 1 (.int .i64 2)).set 2 (.string a1.2.2.2.2)).set 4 (.int .i64 nw.2.1)
            simp at hOc
            have hbc : Below w.heap.size w (((wr.setCell ⟨w.heap.size + 1, 1, none⟩ (.int .i64 2)).setCell ⟨w.heap.size + 1, 2, none⟩ (.string a1.2.2.2.2)).setCell ⟨w.heap.size + 1, 4, none⟩ (.int .i64 nw.2.1)) := by (repeat' (first | exact Below.refl _ _ | assumption | refine Below.setCell ?_ ?_ _ | refine below_drewN ?_ _ | refine Below.drew ?_ | refine Below.alloc ?_ ?_ _ | (with_reducible refine Below.trans ?_ (Below.mono hb ?_)) | (with_reducible refine Below.trans ?_ (Below.mono hb0 ?_)) | (with_reducible refine Below.trans ?_ (Below.mono hb1 ?_)) | (with_reducible refine Below.trans ?_ (Below.mono hb2 ?_)) | (with_reducible refine Below.trans ?_ (Below.mono hb3 ?_)) | (with_reducible refine Below.trans ?_ (Below.mono hb4 ?_)) | (with_reducible refine Below.trans ?_ (Below.mono hb5 ?_)) | (with_reducible refine Below.trans ?_ (Below.mono hb6 ?_)) | (with_reducible refine Below.trans ?_ (Below.mono hb7 ?_)) | (with_reducible refine Below.trans ?_ (Below.mono hb8 ?_)) | (with_reducible refine Below.trans ?_ (Below.mono hb9 ?_)) | (with_reducible refine Below.trans ?_ (Below.mono hb10 ?_)) | (with_reducible refine Below.trans ?_ (Below.mono hb11 ?_)) | (with_reducible refine Below.trans ?_ (Below.mono hb12 ?_)) | (with_reducible refine Below.trans ?_ (Below.mono hb13 ?_)) | (with_reducible refine Below.trans ?_ (Below.mono hb14 ?_)) | (with_reducible refine Below.trans ?_ (Below.mono hb15 ?_)) | omega | (simp; done) | (simp; omega)))
            have hQ1 : Hid (∀ o v, (wr.setCell ⟨w.heap.size + 1, o, none⟩ v).cell? ⟨w.heap.size + 1 + 1, 1, none⟩ = some (.pointer (some ⟨b1, o1, none⟩))) := fun o v => by
              rw [(hL.setOther (p := ⟨w.heap.size + 1, o, none⟩) (by show w.heap.size + 1 ≠ w.heap.size + 1 + 1; omega) v).cell 1]; exact E1.out
            have hO_l := hO.lt; have hO_0 := hO.cell 0; have hO_1 := hO.cell 1; have hO_2 := hO.cell 2; have hO_3 := hO.cell 3; have hO_4 := hO.cell 4; simp at hO_0 hO_1 hO_2 hO_3 hO_4
            have hO_f0 := hO.frozen 0; have hO_f1 := hO.frozen 1; have hO_f2 := hO.frozen 2; have hO_f3 := hO.frozen 3; have hO_f4 := hO.frozen 4
            go_upto_region 18 with (fail)
            refine wp_region_held_drew (S := (fun wx => wx.cell? ⟨w.heap.size + 1 + 1, 1, none⟩ = some (.pointer (some ⟨b1, o1, none⟩)) ∧ wx.cell? ⟨b1, o1 + 4, none⟩ = some (.string a1.2.2.2.2) ∧ wx.cell? ⟨bn, on + 1, none⟩ = some (.int .i64 nw.2.1))) (by kernel_rfl) ?hS (fun hHeld => ?_)
            case hS => exact ⟨hl1, m4, m1⟩
            refine rtake (i := 0) (d := (some 64)) (v := ?_) rfl (by kernel_rfl) (by kernel_rfl) (by kernel_rfl) (by kernel_rfl) (fun _ _ _ h => h) (by kernel_rfl) (by assumption) ?_ ?_
            rotate_left 1
            · (intro wI hSI; (try dsimp only at hSI); go_simp; (try with_reducible rfl))
            simp only [Act.put, List.setIfInBounds_toArray, List.set_cons_zero, List.set_cons_succ]
            refine rtake (i := 1) (d := (some 65)) (v := ?_) rfl (by kernel_rfl) (by kernel_rfl) (by kernel_rfl) (by kernel_rfl) (fun _ _ _ h => h) (by kernel_rfl) (by assumption) ?_ ?_
            rotate_left 1
            · (intro wI hSI; (try dsimp only at hSI); go_simp; (try with_reducible rfl))
            simp only [Act.put, List.setIfInBounds_toArray, List.set_cons_zero, List.set_cons_succ]
            refine rtake (i := 2) (d := (some 66)) (v := ?_) rfl (by kernel_rfl) (by kernel_rfl) (by kernel_rfl) (by kernel_rfl) (fun _ _ _ h => h) (by kernel_rfl) (by assumption) ?_ ?_
            rotate_left 1
            · (intro wI hSI; (try dsimp only at hSI); go_simp; (try with_reducible rfl))
            simp only [Act.put, List.setIfInBounds_toArray, List.set_cons_zero, List.set_cons_succ]
            refine rtake (i := 3) (d := (some 67)) (v := ?_) rfl (by kernel_rfl) (by kernel_rfl) (by kernel_rfl) (by kernel_rfl) (fun _ _ _ h => h) (by kernel_rfl) (by assumption) ?_ ?_
            rotate_left 1
            · (intro wI hSI; (try dsimp only at hSI); go_simp; (try with_reducible rfl))
            simp only [Act.put, List.setIfInBounds_toArray, List.set_cons_zero, List.set_cons_succ]
            refine rtake (i := 4) (d := (some 68)) (v := ?_) rfl (by kernel_rfl) (by kernel_rfl) (by kernel_rfl) (by kernel_rfl) (fun _ _ _ h => h) (by kernel_rfl) (by assumption) ?_ ?_
            rotate_left 1
            · (intro wI hSI; (try dsimp only at hSI); go_simp; (try with_reducible rfl))
            simp only [Act.put, List.setIfInBounds_toArray, List.set_cons_zero, List.set_cons_succ]
            refine rtake (i := 5) (d := (some 69)) (v := ?_) rfl (by kernel_rfl) (by kernel_rfl) (by kernel_rfl) (by kernel_rfl) (fun _ _ _ h => h) (by kernel_rfl) (by assumption) ?_ ?_
            rotate_left 1
            · (intro wI hSI; (try dsimp only at hSI); go_simp; (try with_reducible rfl))
            simp only [Act.put, List.setIfInBounds_toArray, List.set_cons_zero, List.set_cons_succ]
            refine rtake (i := 6) (d := (some 70)) (v := ?_) rfl (by kernel_rfl) (by kernel_rfl) (by kernel_rfl) (by kernel_rfl) (fun _ _ _ h => h) (by kernel_rfl) (by assumption) ?_ ?_
            rotate_left 1
            · (intro wI hSI; (try dsimp only at hSI); go_simp; (try with_reducible rfl))
            simp only [Act.put, List.setIfInBounds_toArray, List.set_cons_zero, List.set_cons_succ]
            refine rtake (i := 7) (d := (some 71)) (v := ?_) rfl (by kernel_rfl) (by kernel_rfl) (by kernel_rfl) (by kernel_rfl) (fun _ _ _ h => h) (by kernel_rfl) (by assumption) ?_ ?_
            rotate_left 1
            · (intro wI hSI; (try dsimp only at hSI); go_simp; (try with_reducible rfl))
            simp only [Act.put, List.setIfInBounds_toArray, List.set_cons_zero, List.set_cons_succ]
            refine rtake (i := 8) (d := (some 72)) (v := ?_) rfl (by kernel_rfl) (by kernel_rfl) (by kernel_rfl) (by kernel_rfl) (fun _ _ _ h => h) (by kernel_rfl) (by assumption) ?_ ?_
            rotate_left 1
            · (intro wI hSI; (try dsimp only at hSI); go_simp; (try with_reducible rfl))
            simp only [Act.put, List.setIfInBounds_toArray, List.set_cons_zero, List.set_cons_succ]
            refine rtake (i := 9) (d := (some 73)) (v := ?_) rfl (by kernel_rfl) (by kernel_rfl) (by kernel_rfl) (by kernel_rfl) (fun _ _ _ h => h) (by kernel_rfl) (by assumption) ?_ ?_
            rotate_left 1
            · (intro wI hSI; (try dsimp only at hSI); go_simp; (try with_reducible rfl))
            simp only [Act.put, List.setIfInBounds_toArray, List.set_cons_zero, List.set_cons_succ]
            refine rcall (i := 10) (d := none) (by kernel_rfl) rfl (by kernel_rfl) (fun K hK => ?_)
            go_simp
            refine hK.out undef _ ?hS (fun hHeld => ?_)
            case hS => exact ⟨(hLa.cell 1).trans E1.out, cell_later (by (repeat' (first | exact Below.refl _ _ | assumption | refine Below.setCell ?_ ?_ _ | refine below_drewN ?_ _ | refine Below.drew ?_ | refine Below.alloc ?_ ?_ _ | (with_reducible refine Below.trans ?_ (Below.mono hb ?_)) | (with_reducible refine Below.trans ?_ (Below.mono hb0 ?_)) | (with_reducible refine Below.trans ?_ (Below.mono hb1 ?_)) | (with_reducible refine Below.trans ?_ (Below.mono hb2 ?_)) | (with_reducible refine Below.trans ?_ (Below.mono hb3 ?_)) | (with_reducible refine Below.trans ?_ (Below.mono hb4 ?_)) | (with_reducible refine Below.trans ?_ (Below.mono hb5 ?_)) | (with_reducible refine Below.trans ?_ (Below.mono hb6 ?_)) | (with_reducible refine Below.trans ?_ (Below.mono hb7 ?_)) | (with_reducible refine Below.trans ?_ (Below.mono hb8 ?_)) | (with_reducible refine Below.trans ?_ (Below.mono hb9 ?_)) | (with_reducible refine Below.trans ?_ (Below.mono hb10 ?_)) | (with_reducible refine Below.trans ?_ (Below.mono hb11 ?_)) | (with_reducible refine Below.trans ?_ (Below.mono hb12 ?_)) | (with_reducible refine Below.trans ?_ (Below.mono hb13 ?_)) | (with_reducible refine Below.trans ?_ (Below.mono hb14 ?_)) | (with_reducible refine Below.trans ?_ (Below.mono hb15 ?_)) | omega | (simp; done) | (simp; omega)))) D4.out, cell_later (by (repeat' (first | exact Below.refl _ _ | assumption | refine Below.setCell ?_ ?_ _ | refine below_drewN ?_ _ | refine Below.drew ?_ | refine Below.alloc ?_ ?_ _ | (with_reducible refine Below.trans ?_ (Below.mono hb ?_)) | (with_reducible refine Below.trans ?_ (Below.mono hb0 ?_)) | (with_reducible refine Below.trans ?_ (Below.mono hb1 ?_)) | (with_reducible refine Below.trans ?_ (Below.mono hb2 ?_)) | (with_reducible refine Below.trans ?_ (Below.mono hb3 ?_)) | (with_reducible refine Below.trans ?_ (Below.mono hb4 ?_)) | (with_reducible refine Below.trans ?_ (Below.mono hb5 ?_)) | (with_reducible refine Below.trans ?_ (Below.mono hb6 ?_)) | (with_reducible refine Below.trans ?_ (Below.mono hb7 ?_)) | (with_reducible refine Below.trans ?_ (Below.mono hb8 ?_)) | (with_reducible refine Below.trans ?_ (Below.mono hb9 ?_)) | (with_reducible refine Below.trans ?_ (Below.mono hb10 ?_)) | (with_reducible refine Below.trans ?_ (Below.mono hb11 ?_)) | (with_reducible refine Below.trans ?_ (Below.mono hb12 ?_)) | (with_reducible refine Below.trans ?_ (Below.mono hb13 ?_)) | (with_reducible refine Below.trans ?_ (Below.mono hb14 ?_)) | (with_reducible refine Below.trans ?_ (Below.mono hb15 ?_)) | omega | (simp; done) | (simp; omega)))) N1.out⟩
            clear hK K
            simp only [Act.put, List.setIfInBounds_toArray, List.set_cons_zero, List.set_cons_succ]
            refine rtake (i := 11) (d := (some 74)) (v := ?_) rfl (by kernel_rfl) (by kernel_rfl) (by kernel_rfl) (by kernel_rfl) (fun _ _ _ h => h) (by kernel_rfl) (by assumption) ?_ ?_
            rotate_left 1
            · (intro wI hSI; (try dsimp only at hSI); go_simp; (try with_reducible rfl))
            simp only [Act.put, List.setIfInBounds_toArray, List.set_cons_zero, List.set_cons_succ]
            refine rcall (i := 12) (d := none) (by kernel_rfl) rfl (by kernel_rfl) (fun K hK => ?_)
            go_simp
            refine hK.out undef _ ?hS (fun hHeld => ?_)
            case hS => exact ⟨(hLb.cell 1).trans E1.out, cell_later (by (repeat' (first | exact Below.refl _ _ | assumption | refine Below.setCell ?_ ?_ _ | refine below_drewN ?_ _ | refine Below.drew ?_ | refine Below.alloc ?_ ?_ _ | (with_reducible refine Below.trans ?_ (Below.mono hb ?_)) | (with_reducible refine Below.trans ?_ (Below.mono hb0 ?_)) | (with_reducible refine Below.trans ?_ (Below.mono hb1 ?_)) | (with_reducible refine Below.trans ?_ (Below.mono hb2 ?_)) | (with_reducible refine Below.trans ?_ (Below.mono hb3 ?_)) | (with_reducible refine Below.trans ?_ (Below.mono hb4 ?_)) | (with_reducible refine Below.trans ?_ (Below.mono hb5 ?_)) | (with_reducible refine Below.trans ?_ (Below.mono hb6 ?_)) | (with_reducible refine Below.trans ?_ (Below.mono hb7 ?_)) | (with_reducible refine Below.trans ?_ (Below.mono hb8 ?_)) | (with_reducible refine Below.trans ?_ (Below.mono hb9 ?_)) | (with_reducible refine Below.trans ?_ (Below.mono hb10 ?_)) | (with_reducible refine Below.trans ?_ (Below.mono hb11 ?_)) | (with_reducible refine Below.trans ?_ (Below.mono hb12 ?_)) | (with_reducible refine Below.trans ?_ (Below.mono hb13 ?_)) | (with_reducible refine Below.trans ?_ (Below.mono hb14 ?_)) | (with_reducible refine Below.trans ?_ (Below.mono hb15 ?_)) | omega | (simp; done) | (simp; omega)))) D4.out, cell_later (by (repeat' (first | exact Below.refl _ _ | assumption | refine Below.setCell ?_ ?_ _ | refine below_drewN ?_ _ | refine Below.drew ?_ | refine Below.alloc ?_ ?_ _ | (with_reducible refine Below.trans ?_ (Below.mono hb ?_)) | (with_reducible refine Below.trans ?_ (Below.mono hb0 ?_)) | (with_reducible refine Below.trans ?_ (Below.mono hb1 ?_)) | (with_reducible refine Below.trans ?_ (Below.mono hb2 ?_)) | (with_reducible refine Below.trans ?_ (Below.mono hb3 ?_)) | (with_reducible refine Below.trans ?_ (Below.mono hb4 ?_)) | (with_reducible refine Below.trans ?_ (Below.mono hb5 ?_)) | (with_reducible refine Below.trans ?_ (Below.mono hb6 ?_)) | (with_reducible refine Below.trans ?_ (Below.mono hb7 ?_)) | (with_reducible refine Below.trans ?_ (Below.mono hb8 ?_)) | (with_reducible refine Below.trans ?_ (Below.mono hb9 ?_)) | (with_reducible refine Below.trans ?_ (Below.mono hb10 ?_)) | (with_reducible refine Below.trans ?_ (Below.mono hb11 ?_)) | (with_reducible refine Below.trans ?_ (Below.mono hb12 ?_)) | (with_reducible refine Below.trans ?_ (Below.mono hb13 ?_)) | (with_reducible refine Below.trans ?_ (Below.mono hb14 ?_)) | (with_reducible refine Below.trans ?_ (Below.mono hb15 ?_)) | omega | (simp; done) | (simp; omega)))) N1.out⟩
            clear hK K
            simp only [Act.put, List.setIfInBounds_toArray, List.set_cons_zero, List.set_cons_succ]
            refine rtake (i := 13) (d := (some 75)) (v := ?_) rfl (by kernel_rfl) (by kernel_rfl) (by kernel_rfl) (by kernel_rfl) (fun _ _ _ h => h) (by kernel_rfl) (by assumption) ?_ ?_
            rotate_left 1
            · (intro wI hSI; (try dsimp only at hSI); go_simp; (try with_reducible rfl))
            simp only [Act.put, List.setIfInBounds_toArray, List.set_cons_zero, List.set_cons_succ]
            refine rcall (i := 14) (d := none) (by kernel_rfl) rfl (by kernel_rfl) (fun K hK => ?_)
            go_simp
            refine hK.out undef _ ?hS (fun hHeld => ?_)
            case hS => exact ⟨(hLc.cell 1).trans E1.out, cell_later (by (repeat' (first | exact Below.refl _ _ | assumption | refine Below.setCell ?_ ?_ _ | refine below_drewN ?_ _ | refine Below.drew ?_ | refine Below.alloc ?_ ?_ _ | (with_reducible refine Below.trans ?_ (Below.mono hb ?_)) | (with_reducible refine Below.trans ?_ (Below.mono hb0 ?_)) | (with_reducible refine Below.trans ?_ (Below.mono hb1 ?_)) | (with_reducible refine Below.trans ?_ (Below.mono hb2 ?_)) | (with_reducible refine Below.trans ?_ (Below.mono hb3 ?_)) | (with_reducible refine Below.trans ?_ (Below.mono hb4 ?_)) | (with_reducible refine Below.trans ?_ (Below.mono hb5 ?_)) | (with_reducible refine Below.trans ?_ (Below.mono hb6 ?_)) | (with_reducible refine Below.trans ?_ (Below.mono hb7 ?_)) | (with_reducible refine Below.trans ?_ (Below.mono hb8 ?_)) | (with_reducible refine Below.trans ?_ (Below.mono hb9 ?_)) | (with_reducible refine Below.trans ?_ (Below.mono hb10 ?_)) | (with_reducible refine Below.trans ?_ (Below.mono hb11 ?_)) | (with_reducible refine Below.trans ?_ (Below.mono hb12 ?_)) | (with_reducible refine Below.trans ?_ (Below.mono hb13 ?_)) | (with_reducible refine Below.trans ?_ (Below.mono hb14 ?_)) | (with_reducible refine Below.trans ?_ (Below.mono hb15 ?_)) | omega | (simp; done) | (simp; omega)))) D4.out, cell_later (by (repeat' (first | exact Below.refl _ _ | assumption | refine Below.setCell ?_ ?_ _ | refine below_drewN ?_ _ | refine Below.drew ?_ | refine Below.alloc ?_ ?_ _ | (with_reducible refine Below.trans ?_ (Below.mono hb ?_)) | (with_reducible refine Below.trans ?_ (Below.mono hb0 ?_)) | (with_reducible refine Below.trans ?_ (Below.mono hb1 ?_)) | (with_reducible refine Below.trans ?_ (Below.mono hb2 ?_)) | (with_reducible refine Below.trans ?_ (Below.mono hb3 ?_)) | (with_reducible refine Below.trans ?_ (Below.mono hb4 ?_)) | (with_reducible refine Below.trans ?_ (Below.mono hb5 ?_)) | (with_reducible refine Below.trans ?_ (Below.mono hb6 ?_)) | (with_reducible refine Below.trans ?_ (Below.mono hb7 ?_)) | (with_reducible refine Below.trans ?_ (Below.mono hb8 ?_)) | (with_reducible refine Below.trans ?_ (Below.mono hb9 ?_)) | (with_reducible refine Below.trans ?_ (Below.mono hb10 ?_)) | (with_reducible refine Below.trans ?_ (Below.mono hb11 ?_)) | (with_reducible refine Below.trans ?_ (Below.mono hb12 ?_)) | (with_reducible refine Below.trans ?_ (Below.mono hb13 ?_)) | (with_reducible refine Below.trans ?_ (Below.mono hb14 ?_)) | (with_reducible refine Below.trans ?_ (Below.mono hb15 ?_)) | omega | (simp; done) | (simp; omega)))) N1.out⟩
            clear hK K
            simp only [Act.put, List.setIfInBounds_toArray, List.set_cons_zero, List.set_cons_succ]
            refine wpAnyH_done (by kernel_rfl) ?_ _
            clear hL hLa hLb hR hO hb hHeld hl1 m1 m4 hQ1 hO_l hO_0 hO_1 hO_2 hO_3 hO_4 hO_f0 hO_f1 hO_f2 hO_f3 hO_f4
            replace hLc := hLc.drew
            replace hRc := hRc.drew
            replace hOc := hOc.drew
            replace hbc := hbc.drew
            generalize ((((wr.setCell ⟨w.heap.size + 1, 1, none⟩ (.int .i64 2)).setCell ⟨w.heap.size + 1, 2, none⟩ (.string a1.2.2.2.2)).setCell ⟨w.heap.size + 1, 4, none⟩ (.int .i64 nw.2.1)).drew) = W8 at *
            have hl2 := hLc.cell 2
            rw [E2.out] at hl2
            cases fu with
            | none =>
              obtain rfl := P2.out.isNone
              have hO := hOc
              have hR := hRc
              have hb := hbc
              have k2 := cell_later hb N2.out
              by_cases h3 : nw.2.2.1 = 3
              · have He : Hid (en = (id, 4, a1.2.2.2.2, ⟨#[]⟩, nw.2.1)) := by show _ = _; rw [Hen.out, if_pos (decide_eq_true h3)]; rfl
                rw [h3] at k2
                clear Hen h3
                have hO4 := hO.set 1 (.int .i64 4)
                simp at hO4
                have hR4 := hR.setOther (p := ⟨w.heap.size + 1, 1, none⟩) (by show w.heap.size + 1 ≠ w.heap.size; omega) (.int .i64 4)
                have hb4 : Below w.heap.size w (W8.setCell ⟨w.heap.size + 1, 1, none⟩ (.int .i64 4)) := by (repeat' (first | exact Below.refl _ _ | assumption | refine Below.setCell ?_ ?_ _ | refine below_drewN ?_ _ | refine Below.drew ?_ | refine Below.alloc ?_ ?_ _ | (with_reducible refine Below.trans ?_ (Below.mono hb ?_)) | (with_reducible refine Below.trans ?_ (Below.mono hb0 ?_)) | (with_reducible refine Below.trans ?_ (Below.mono hb1 ?_)) | (with_reducible refine Below.trans ?_ (Below.mono hb2 ?_)) | (with_reducible refine Below.trans ?_ (Below.mono hb3 ?_)) | (with_reducible refine Below.trans ?_ (Below.mono hb4 ?_)) | (with_reducible refine Below.trans ?_ (Below.mono hb5 ?_)) | (with_reducible refine Below.trans ?_ (Below.mono hb6 ?_)) | (with_reducible refine Below.trans ?_ (Below.mono hb7 ?_)) | (with_reducible refine Below.trans ?_ (Below.mono hb8 ?_)) | (with_reducible refine Below.trans ?_ (Below.mono hb9 ?_)) | (with_reducible refine Below.trans ?_ (Below.mono hb10 ?_)) | (with_reducible refine Below.trans ?_ (Below.mono hb11 ?_)) | (with_reducible refine Below.trans ?_ (Below.mono hb12 ?_)) | (with_reducible refine Below.trans ?_ (Below.mono hb13 ?_)) | (with_reducible refine Below.trans ?_ (Below.mono hb14 ?_)) | (with_reducible refine Below.trans ?_ (Below.mono hb15 ?_)) | omega | (simp; done) | (simp; omega)))
                have hO_l := hO.lt; have hO_0 := hO.cell 0; have hO_1 := hO.cell 1; have hO_2 := hO.cell 2; have hO_3 := hO.cell 3; have hO_4 := hO.cell 4; simp at hO_0 hO_1 hO_2 hO_3 hO_4
                have hO_f0 := hO.frozen 0; have hO_f1 := hO.frozen 1; have hO_f2 := hO.frozen 2; have hO_f3 := hO.frozen 3; have hO_f4 := hO.frozen 4
                go_upto_region 24 with (fail)
                clear hO_l hO_0 hO_1 hO_2 hO_3 hO_4 hO_f0 hO_f1 hO_f2 hO_f3 hO_f4 hO hR hb k2
                generalize W8.setCell ⟨w.heap.size + 1, 1, none⟩ (.int .i64 4) = W10 at *
                have hO := hO4
                have hR := hR4
                have hb := hb4
                have hR_l := hR.lt; have hR_0 := hR.cell 0; have hR_1 := hR.cell 1; have hR_2 := hR.cell 2; have hR_3 := hR.cell 3; have hR_4 := hR.cell 4; simp at hR_0 hR_1 hR_2 hR_3 hR_4
                have hR_f0 := hR.frozen 0; have hR_f1 := hR.frozen 1; have hR_f2 := hR.frozen 2; have hR_f3 := hR.frozen 3; have hR_f4 := hR.frozen 4
                have hO_l := hO.lt; have hO_0 := hO.cell 0; have hO_1 := hO.cell 1; have hO_2 := hO.cell 2; have hO_3 := hO.cell 3; have hO_4 := hO.cell 4; simp at hO_0 hO_1 hO_2 hO_3 hO_4
                go_wp2_with fail
                refine bodyPost_ret (v := entAgg (id, 4, a1.2.2.2.2, ⟨#[]⟩, nw.2.1)) (by simp only [results, Tryz.results40]; go_simp; first | rfl | simp [entAgg]) rfl ?_
                refine ⟨?_, by (repeat' (first | exact Below.refl _ _ | assumption | refine Below.setCell ?_ ?_ _ | refine below_drewN ?_ _ | refine Below.drew ?_ | refine Below.alloc ?_ ?_ _ | (with_reducible refine Below.trans ?_ (Below.mono hb ?_)) | (with_reducible refine Below.trans ?_ (Below.mono hb0 ?_)) | (with_reducible refine Below.trans ?_ (Below.mono hb1 ?_)) | (with_reducible refine Below.trans ?_ (Below.mono hb2 ?_)) | (with_reducible refine Below.trans ?_ (Below.mono hb3 ?_)) | (with_reducible refine Below.trans ?_ (Below.mono hb4 ?_)) | (with_reducible refine Below.trans ?_ (Below.mono hb5 ?_)) | (with_reducible refine Below.trans ?_ (Below.mono hb6 ?_)) | (with_reducible refine Below.trans ?_ (Below.mono hb7 ?_)) | (with_reducible refine Below.trans ?_ (Below.mono hb8 ?_)) | (with_reducible refine Below.trans ?_ (Below.mono hb9 ?_)) | (with_reducible refine Below.trans ?_ (Below.mono hb10 ?_)) | (with_reducible refine Below.trans ?_ (Below.mono hb11 ?_)) | (with_reducible refine Below.trans ?_ (Below.mono hb12 ?_)) | (with_reducible refine Below.trans ?_ (Below.mono hb13 ?_)) | (with_reducible refine Below.trans ?_ (Below.mono hb14 ?_)) | (with_reducible refine Below.trans ?_ (Below.mono hb15 ?_)) | omega | (simp; done) | (simp; omega)))⟩
                rw [He.out]
              · have He : Hid (en = (id, 2, a1.2.2.2.2, ⟨#[]⟩, nw.2.1)) := by show _ = _; rw [Hen.out, if_neg (by rw [decide_eq_false h3]; decide)]; rfl
                have h3' : (nw.2.2.1 == 3) = false := by simpa using h3
                clear Hen h3
                go_upto_region 24 with (fail)
                have hR_l := hR.lt; have hR_0 := hR.cell 0; have hR_1 := hR.cell 1; have hR_2 := hR.cell 2; have hR_3 := hR.cell 3; have hR_4 := hR.cell 4; simp at hR_0 hR_1 hR_2 hR_3 hR_4
                have hR_f0 := hR.frozen 0; have hR_f1 := hR.frozen 1; have hR_f2 := hR.frozen 2; have hR_f3 := hR.frozen 3; have hR_f4 := hR.frozen 4
                have hO_l := hO.lt; have hO_0 := hO.cell 0; have hO_1 := hO.cell 1; have hO_2 := hO.cell 2; have hO_3 := hO.cell 3; have hO_4 := hO.cell 4; simp at hO_0 hO_1 hO_2 hO_3 hO_4
                go_wp2_with fail
                refine bodyPost_ret (v := entAgg (id, 2, a1.2.2.2.2, ⟨#[]⟩, nw.2.1)) (by simp only [results, Tryz.results40]; go_simp; first | rfl | simp [entAgg]) rfl ?_
                refine ⟨?_, by (repeat' (first | exact Below.refl _ _ | assumption | refine Below.setCell ?_ ?_ _ | refine below_drewN ?_ _ | refine Below.drew ?_ | refine Below.alloc ?_ ?_ _ | (with_reducible refine Below.trans ?_ (Below.mono hb ?_)) | (with_reducible refine Below.trans ?_ (Below.mono hb0 ?_)) | (with_reducible refine Below.trans ?_ (Below.mono hb1 ?_)) | (with_reducible refine Below.trans ?_ (Below.mono hb2 ?_)) | (with_reducible refine Below.trans ?_ (Below.mono hb3 ?_)) | (with_reducible refine Below.trans ?_ (Below.mono hb4 ?_)) | (with_reducible refine Below.trans ?_ (Below.mono hb5 ?_)) | (with_reducible refine Below.trans ?_ (Below.mono hb6 ?_)) | (with_reducible refine Below.trans ?_ (Below.mono hb7 ?_)) | (with_reducible refine Below.trans ?_ (Below.mono hb8 ?_)) | (with_reducible refine Below.trans ?_ (Below.mono hb9 ?_)) | (with_reducible refine Below.trans ?_ (Below.mono hb10 ?_)) | (with_reducible refine Below.trans ?_ (Below.mono hb11 ?_)) | (with_reducible refine Below.trans ?_ (Below.mono hb12 ?_)) | (with_reducible refine Below.trans ?_ (Below.mono hb13 ?_)) | (with_reducible refine Below.trans ?_ (Below.mono hb14 ?_)) | (with_reducible refine Below.trans ?_ (Below.mono hb15 ?_)) | omega | (simp; done) | (simp; omega)))⟩
                rw [He.out]
            | some f =>
              obtain ⟨bf, of, rfl, f0, f1, f2, f3, f4⟩ := P2.out.isSome
              have F4 := Lib.hid f4
              have g4 := cell_later hbc f4
              clear f0 f1 f2 f3 f4
              have hRd := (hRc.setOther (p := ⟨w.heap.size + 1, 1, none⟩) (by show w.heap.size + 1 ≠ w.heap.size; omega) (.int .i64 3)).setOther (p := ⟨w.heap.size + 1, 3, none⟩) (by show w.heap.size + 1 ≠ w.heap.size; omega) (.string f.2.2.2.2)
              have hOd := (hOc.set 1 (.int .i64 3)).set 3 (.string f.2.2.2.2)
              simp at hOd
              have hbd : Below w.heap.size w ((W8.setCell ⟨w.heap.size + 1, 1, none⟩ (.int .i64 3)).setCell ⟨w.heap.size + 1, 3, none⟩ (.string f.2.2.2.2)) := by (repeat' (first | exact Below.refl _ _ | assumption | refine Below.setCell ?_ ?_ _ | refine below_drewN ?_ _ | refine Below.drew ?_ | refine Below.alloc ?_ ?_ _ | (with_reducible refine Below.trans ?_ (Below.mono hb ?_)) | (with_reducible refine Below.trans ?_ (Below.mono hb0 ?_)) | (with_reducible refine Below.trans ?_ (Below.mono hb1 ?_)) | (with_reducible refine Below.trans ?_ (Below.mono hb2 ?_)) | (with_reducible refine Below.trans ?_ (Below.mono hb3 ?_)) | (with_reducible refine Below.trans ?_ (Below.mono hb4 ?_)) | (with_reducible refine Below.trans ?_ (Below.mono hb5 ?_)) | (with_reducible refine Below.trans ?_ (Below.mono hb6 ?_)) | (with_reducible refine Below.trans ?_ (Below.mono hb7 ?_)) | (with_reducible refine Below.trans ?_ (Below.mono hb8 ?_)) | (with_reducible refine Below.trans ?_ (Below.mono hb9 ?_)) | (with_reducible refine Below.trans ?_ (Below.mono hb10 ?_)) | (with_reducible refine Below.trans ?_ (Below.mono hb11 ?_)) | (with_reducible refine Below.trans ?_ (Below.mono hb12 ?_)) | (with_reducible refine Below.trans ?_ (Below.mono hb13 ?_)) | (with_reducible refine Below.trans ?_ (Below.mono hb14 ?_)) | (with_reducible refine Below.trans ?_ (Below.mono hb15 ?_)) | omega | (simp; done) | (simp; omega)))
              have hOc_l := hOc.lt; have hOc_0 := hOc.cell 0; have hOc_1 := hOc.cell 1; have hOc_2 := hOc.cell 2; have hOc_3 := hOc.cell 3; have hOc_4 := hOc.cell 4; simp at hOc_0 hOc_1 hOc_2 hOc_3 hOc_4
              have hOc_f0 := hOc.frozen 0; have hOc_f1 := hOc.frozen 1; have hOc_f2 := hOc.frozen 2; have hOc_f3 := hOc.frozen 3; have hOc_f4 := hOc.frozen 4
              go_upto_region 21 with (fail)
              refine wp_region_held_drew (S := (fun wx => wx.cell? ⟨bf, of + 4, none⟩ = some (.string f.2.2.2.2))) (by kernel_rfl) ?hS (fun hHeld => ?_)
              case hS => exact g4
              refine rtake (i := 0) (d := (some 80)) (v := ?_) rfl (by kernel_rfl) (by kernel_rfl) (by kernel_rfl) (by kernel_rfl) (fun _ _ _ h => h) (by kernel_rfl) (by assumption) ?_ ?_
              rotate_left 1
              · (intro wI hSI; (try dsimp only at hSI); go_simp; (try with_reducible rfl))
              simp only [Act.put, List.setIfInBounds_toArray, List.set_cons_zero, List.set_cons_succ]
              refine rtake (i := 1) (d := (some 81)) (v := ?_) rfl (by kernel_rfl) (by kernel_rfl) (by kernel_rfl) (by kernel_rfl) (fun _ _ _ h => h) (by kernel_rfl) (by assumption) ?_ ?_
              rotate_left 1
              · (intro wI hSI; (try dsimp only at hSI); go_simp; (try with_reducible rfl))
              simp only [Act.put, List.setIfInBounds_toArray, List.set_cons_zero, List.set_cons_succ]
              refine rtake (i := 2) (d := (some 82)) (v := ?_) rfl (by kernel_rfl) (by kernel_rfl) (by kernel_rfl) (by kernel_rfl) (fun _ _ _ h => h) (by kernel_rfl) (by assumption) ?_ ?_
              rotate_left 1
              · (intro wI hSI; (try dsimp only at hSI); go_simp; (try with_reducible rfl))
              simp only [Act.put, List.setIfInBounds_toArray, List.set_cons_zero, List.set_cons_succ]
              refine rtake (i := 3) (d := (some 83)) (v := ?_) rfl (by kernel_rfl) (by kernel_rfl) (by kernel_rfl) (by kernel_rfl) (fun _ _ _ h => h) (by kernel_rfl) (by assumption) ?_ ?_
              rotate_left 1
              · (intro wI hSI; (try dsimp only at hSI); go_simp; (try with_reducible rfl))
              simp only [Act.put, List.setIfInBounds_toArray, List.set_cons_zero, List.set_cons_succ]
              refine rtake (i := 4) (d := (some 84)) (v := ?_) rfl (by kernel_rfl) (by kernel_rfl) (by kernel_rfl) (by kernel_rfl) (fun _ _ _ h => h) (by kernel_rfl) (by assumption) ?_ ?_
              rotate_left 1
              · (intro wI hSI; (try dsimp only at hSI); go_simp; (try with_reducible rfl))
              simp only [Act.put, List.setIfInBounds_toArray, List.set_cons_zero, List.set_cons_succ]
              refine rcall (i := 5) (d := none) (by kernel_rfl) rfl (by kernel_rfl) (fun K hK => ?_)
              go_simp
              refine hK.out undef _ ?hS (fun hHeld => ?_)
              case hS => exact cell_later (by (repeat' (first | exact Below.refl _ _ | assumption | refine Below.setCell ?_ ?_ _ | refine below_drewN ?_ _ | refine Below.drew ?_ | refine Below.alloc ?_ ?_ _ | (with_reducible refine Below.trans ?_ (Below.mono hb ?_)) | (with_reducible refine Below.trans ?_ (Below.mono hb0 ?_)) | (with_reducible refine Below.trans ?_ (Below.mono hb1 ?_)) | (with_reducible refine Below.trans ?_ (Below.mono hb2 ?_)) | (with_reducible refine Below.trans ?_ (Below.mono hb3 ?_)) | (with_reducible refine Below.trans ?_ (Below.mono hb4 ?_)) | (with_reducible refine Below.trans ?_ (Below.mono hb5 ?_)) | (with_reducible refine Below.trans ?_ (Below.mono hb6 ?_)) | (with_reducible refine Below.trans ?_ (Below.mono hb7 ?_)) | (with_reducible refine Below.trans ?_ (Below.mono hb8 ?_)) | (with_reducible refine Below.trans ?_ (Below.mono hb9 ?_)) | (with_reducible refine Below.trans ?_ (Below.mono hb10 ?_)) | (with_reducible refine Below.trans ?_ (Below.mono hb11 ?_)) | (with_reducible refine Below.trans ?_ (Below.mono hb12 ?_)) | (with_reducible refine Below.trans ?_ (Below.mono hb13 ?_)) | (with_reducible refine Below.trans ?_ (Below.mono hb14 ?_)) | (with_reducible refine Below.trans ?_ (Below.mono hb15 ?_)) | omega | (simp; done) | (simp; omega)))) F4.out
              clear hK K
              simp only [Act.put, List.setIfInBounds_toArray, List.set_cons_zero, List.set_cons_succ]
              refine rtake (i := 6) (d := (some 85)) (v := ?_) rfl (by kernel_rfl) (by kernel_rfl) (by kernel_rfl) (by kernel_rfl) (fun _ _ _ h => h) (by kernel_rfl) (by assumption) ?_ ?_
              rotate_left 1
              · (intro wI hSI; (try dsimp only at hSI); go_simp; (try with_reducible rfl))
              simp only [Act.put, List.setIfInBounds_toArray, List.set_cons_zero, List.set_cons_succ]
              refine rcall (i := 7) (d := none) (by kernel_rfl) rfl (by kernel_rfl) (fun K hK => ?_)
              go_simp
              refine hK.out undef _ ?hS (fun hHeld => ?_)
              case hS => exact cell_later (by (repeat' (first | exact Below.refl _ _ | assumption | refine Below.setCell ?_ ?_ _ | refine below_drewN ?_ _ | refine Below.drew ?_ | refine Below.alloc ?_ ?_ _ | (with_reducible refine Below.trans ?_ (Below.mono hb ?_)) | (with_reducible refine Below.trans ?_ (Below.mono hb0 ?_)) | (with_reducible refine Below.trans ?_ (Below.mono hb1 ?_)) | (with_reducible refine Below.trans ?_ (Below.mono hb2 ?_)) | (with_reducible refine Below.trans ?_ (Below.mono hb3 ?_)) | (with_reducible refine Below.trans ?_ (Below.mono hb4 ?_)) | (with_reducible refine Below.trans ?_ (Below.mono hb5 ?_)) | (with_reducible refine Below.trans ?_ (Below.mono hb6 ?_)) | (with_reducible refine Below.trans ?_ (Below.mono hb7 ?_)) | (with_reducible refine Below.trans ?_ (Below.mono hb8 ?_)) | (with_reducible refine Below.trans ?_ (Below.mono hb9 ?_)) | (with_reducible refine Below.trans ?_ (Below.mono hb10 ?_)) | (with_reducible refine Below.trans ?_ (Below.mono hb11 ?_)) | (with_reducible refine Below.trans ?_ (Below.mono hb12 ?_)) | (with_reducible refine Below.trans ?_ (Below.mono hb13 ?_)) | (with_reducible refine Below.trans ?_ (Below.mono hb14 ?_)) | (with_reducible refine Below.trans ?_ (Below.mono hb15 ?_)) | omega | (simp; done) | (simp; omega)))) F4.out
              clear hK K
              simp only [Act.put, List.setIfInBounds_toArray, List.set_cons_zero, List.set_cons_succ]
              refine wpAnyH_done (by kernel_rfl) ?_ _
              clear hLc hRc hOc hbc hHeld hl2 g4 hOc_l hOc_0 hOc_1 hOc_2 hOc_3 hOc_4 hOc_f0 hOc_f1 hOc_f2 hOc_f3 hOc_f4
              replace hRd := hRd.drew
              replace hOd := hOd.drew
              replace hbd := hbd.drew
              generalize (((W8.setCell ⟨w.heap.size + 1, 1, none⟩ (.int .i64 3)).setCell ⟨w.heap.size + 1, 3, none⟩ (.string f.2.2.2.2)).drew) = W9 at *
              have hO := hOd
              have hR := hRd
              have hb := hbd
              have k2 := cell_later hb N2.out
              by_cases h3 : nw.2.2.1 = 3
              · have He : Hid (en = (id, 4, a1.2.2.2.2, f.2.2.2.2, nw.2.1)) := by show _ = _; rw [Hen.out, if_pos (decide_eq_true h3)]; rfl
                rw [h3] at k2
                clear Hen h3
                have hO4 := hO.set 1 (.int .i64 4)
                simp at hO4
                have hR4 := hR.setOther (p := ⟨w.heap.size + 1, 1, none⟩) (by show w.heap.size + 1 ≠ w.heap.size; omega) (.int .i64 4)
                have hb4 : Below w.heap.size w (W9.setCell ⟨w.heap.size + 1, 1, none⟩ (.int .i64 4)) := by (repeat' (first | exact Below.refl _ _ | assumption | refine Below.setCell ?_ ?_ _ | refine below_drewN ?_ _ | refine Below.drew ?_ | refine Below.alloc ?_ ?_ _ | (with_reducible refine Below.trans ?_ (Below.mono hb ?_)) | (with_reducible refine Below.trans ?_ (Below.mono hb0 ?_)) | (with_reducible refine Below.trans ?_ (Below.mono hb1 ?_)) | (with_reducible refine Below.trans ?_ (Below.mono hb2 ?_)) | (with_reducible refine Below.trans ?_ (Below.mono hb3 ?_)) | (with_reducible refine Below.trans ?_ (Below.mono hb4 ?_)) | (with_reducible refine Below.trans ?_ (Below.mono hb5 ?_)) | (with_reducible refine Below.trans ?_ (Below.mono hb6 ?_)) | (with_reducible refine Below.trans ?_ (Below.mono hb7 ?_)) | (with_reducible refine Below.trans ?_ (Below.mono hb8 ?_)) | (with_reducible refine Below.trans ?_ (Below.mono hb9 ?_)) | (with_reducible refine Below.trans ?_ (Below.mono hb10 ?_)) | (with_reducible refine Below.trans ?_ (Below.mono hb11 ?_)) | (with_reducible refine Below.trans ?_ (Below.mono hb12 ?_)) | (with_reducible refine Below.trans ?_ (Below.mono hb13 ?_)) | (with_reducible refine Below.trans ?_ (Below.mono hb14 ?_)) | (with_reducible refine Below.trans ?_ (Below.mono hb15 ?_)) | omega | (simp; done) | (simp; omega)))
                have hO_l := hO.lt; have hO_0 := hO.cell 0; have hO_1 := hO.cell 1; have hO_2 := hO.cell 2; have hO_3 := hO.cell 3; have hO_4 := hO.cell 4; simp at hO_0 hO_1 hO_2 hO_3 hO_4
                have hO_f0 := hO.frozen 0; have hO_f1 := hO.frozen 1; have hO_f2 := hO.frozen 2; have hO_f3 := hO.frozen 3; have hO_f4 := hO.frozen 4
                go_upto_region 24 with (fail)
                clear hO_l hO_0 hO_1 hO_2 hO_3 hO_4 hO_f0 hO_f1 hO_f2 hO_f3 hO_f4 hO hR hb k2
                generalize W9.setCell ⟨w.heap.size + 1, 1, none⟩ (.int .i64 4) = W10 at *
                have hO := hO4
                have hR := hR4
                have hb := hb4
                have hR_l := hR.lt; have hR_0 := hR.cell 0; have hR_1 := hR.cell 1; have hR_2 := hR.cell 2; have hR_3 := hR.cell 3; have hR_4 := hR.cell 4; simp at hR_0 hR_1 hR_2 hR_3 hR_4
                have hR_f0 := hR.frozen 0; have hR_f1 := hR.frozen 1; have hR_f2 := hR.frozen 2; have hR_f3 := hR.frozen 3; have hR_f4 := hR.frozen 4
                have hO_l := hO.lt; have hO_0 := hO.cell 0; have hO_1 := hO.cell 1; have hO_2 := hO.cell 2; have hO_3 := hO.cell 3; have hO_4 := hO.cell 4; simp at hO_0 hO_1 hO_2 hO_3 hO_4
                go_wp2_with fail
                refine bodyPost_ret (v := entAgg (id, 4, a1.2.2.2.2, f.2.2.2.2, nw.2.1)) (by simp only [results, Tryz.results40]; go_simp; first | rfl | simp [entAgg]) rfl ?_
                refine ⟨?_, by (repeat' (first | exact Below.refl _ _ | assumption | refine Below.setCell ?_ ?_ _ | refine below_drewN ?_ _ | refine Below.drew ?_ | refine Below.alloc ?_ ?_ _ | (with_reducible refine Below.trans ?_ (Below.mono hb ?_)) | (with_reducible refine Below.trans ?_ (Below.mono hb0 ?_)) | (with_reducible refine Below.trans ?_ (Below.mono hb1 ?_)) | (with_reducible refine Below.trans ?_ (Below.mono hb2 ?_)) | (with_reducible refine Below.trans ?_ (Below.mono hb3 ?_)) | (with_reducible refine Below.trans ?_ (Below.mono hb4 ?_)) | (with_reducible refine Below.trans ?_ (Below.mono hb5 ?_)) | (with_reducible refine Below.trans ?_ (Below.mono hb6 ?_)) | (with_reducible refine Below.trans ?_ (Below.mono hb7 ?_)) | (with_reducible refine Below.trans ?_ (Below.mono hb8 ?_)) | (with_reducible refine Below.trans ?_ (Below.mono hb9 ?_)) | (with_reducible refine Below.trans ?_ (Below.mono hb10 ?_)) | (with_reducible refine Below.trans ?_ (Below.mono hb11 ?_)) | (with_reducible refine Below.trans ?_ (Below.mono hb12 ?_)) | (with_reducible refine Below.trans ?_ (Below.mono hb13 ?_)) | (with_reducible refine Below.trans ?_ (Below.mono hb14 ?_)) | (with_reducible refine Below.trans ?_ (Below.mono hb15 ?_)) | omega | (simp; done) | (simp; omega)))⟩
                rw [He.out]
              · have He : Hid (en = (id, 3, a1.2.2.2.2, f.2.2.2.2, nw.2.1)) := by show _ = _; rw [Hen.out, if_neg (by rw [decide_eq_false h3]; decide)]; rfl
                have h3' : (nw.2.2.1 == 3) = false := by simpa using h3
                clear Hen h3
                go_upto_region 24 with (fail)
                have hR_l := hR.lt; have hR_0 := hR.cell 0; have hR_1 := hR.cell 1; have hR_2 := hR.cell 2; have hR_3 := hR.cell 3; have hR_4 := hR.cell 4; simp at hR_0 hR_1 hR_2 hR_3 hR_4
                have hR_f0 := hR.frozen 0; have hR_f1 := hR.frozen 1; have hR_f2 := hR.frozen 2; have hR_f3 := hR.frozen 3; have hR_f4 := hR.frozen 4
                have hO_l := hO.lt; have hO_0 := hO.cell 0; have hO_1 := hO.cell 1; have hO_2 := hO.cell 2; have hO_3 := hO.cell 3; have hO_4 := hO.cell 4; simp at hO_0 hO_1 hO_2 hO_3 hO_4
                go_wp2_with fail
                refine bodyPost_ret (v := entAgg (id, 3, a1.2.2.2.2, f.2.2.2.2, nw.2.1)) (by simp only [results, Tryz.results40]; go_simp; first | rfl | simp [entAgg]) rfl ?_
                refine ⟨?_, by (repeat' (first | exact Below.refl _ _ | assumption | refine Below.setCell ?_ ?_ _ | refine below_drewN ?_ _ | refine Below.drew ?_ | refine Below.alloc ?_ ?_ _ | (with_reducible refine Below.trans ?_ (Below.mono hb ?_)) | (with_reducible refine Below.trans ?_ (Below.mono hb0 ?_)) | (with_reducible refine Below.trans ?_ (Below.mono hb1 ?_)) | (with_reducible refine Below.trans ?_ (Below.mono hb2 ?_)) | (with_reducible refine Below.trans ?_ (Below.mono hb3 ?_)) | (with_reducible refine Below.trans ?_ (Below.mono hb4 ?_)) | (with_reducible refine Below.trans ?_ (Below.mono hb5 ?_)) | (with_reducible refine Below.trans ?_ (Below.mono hb6 ?_)) | (with_reducible refine Below.trans ?_ (Below.mono hb7 ?_)) | (with_reducible refine Below.trans ?_ (Below.mono hb8 ?_)) | (with_reducible refine Below.trans ?_ (Below.mono hb9 ?_)) | (with_reducible refine Below.trans ?_ (Below.mono hb10 ?_)) | (with_reducible refine Below.trans ?_ (Below.mono hb11 ?_)) | (with_reducible refine Below.trans ?_ (Below.mono hb12 ?_)) | (with_reducible refine Below.trans ?_ (Below.mono hb13 ?_)) | (with_reducible refine Below.trans ?_ (Below.mono hb14 ?_)) | (with_reducible refine Below.trans ?_ (Below.mono hb15 ?_)) | omega | (simp; done) | (simp; omega)))⟩
                rw [He.out]
end Go.Proofs.YtifflpilnpcmoaaGreatDoor
