/- BelowOf, MeetOf and NearOf of the reference. -/
import Derived.Test.YtpgofjjcmldhpaaGreatDoorTopic2
import Derived.Test.YtpgofjjcmldhpaaGreatDoorFrac
namespace Go.Proofs.YtpgofjjcmldhpaaGreatDoor
open Go.RowKit
set_option linter.unusedVariables false

/-- A topic and all above it. -/
def ab (l : List Topic) (k : ByteArray) : List ByteArray := ForestPure.aboveN l (l.length + 1) k
def belowS (l : List Topic) (key : ByteArray) : List ByteArray := (l.filter (fun t => hasS (ab l t.1) key)).map (·.1)
def meetS (l : List Topic) (a b : ByteArray) : ByteArray := ((ab l a).find? (fun x => hasS (ab l b) x)).getD ⟨#[]⟩
def nearV (l : List Topic) (a b : ByteArray) : Value :=
  if meetS l a b = ⟨#[]⟩ then .agg #[.int .i64 0, .int .i64 1] else low (2 * (ab l (meetS l a b)).length) ((ab l a).length + (ab l b).length)

theorem ab_length (l : List Topic) (k : ByteArray) : (ab l k).length ≤ l.length + 1 := aboveN_length l _ k
theorem belowS_take (l : List Topic) (key : ByteArray) {k : Nat} (hk : k < l.length) :
    ((l.take (k + 1)).filter (fun t => hasS (ab l t.1) key)).map (·.1) = ((l.take k).filter (fun t => hasS (ab l t.1) key)).map (·.1) ++ (if hasS (ab l l[k].1) key then [l[k].1] else []) := by
  rw [List.take_succ_eq_append_getElem hk, List.filter_append, List.map_append]
  by_cases h : hasS (ab l l[k].1) key = true <;> simp [h]


theorem meet_drop {p : ByteArray → Bool} (ls : List ByteArray) {k : Nat} (hk : k < ls.length) (h : ∀ j, (hj : j < k) → p (ls[j]'(by omega)) = false) (hp : p ls[k] = true) : ls.find? p = some ls[k] := by
  rw [List.find?_eq_some_iff_getElem]
  exact ⟨hp, k, hk, rfl, fun j hj => by rw [h j hj]; rfl⟩

set_option maxRecDepth 100000 in
set_option maxHeartbeats 4000000 in
theorem meetOf_any (l : List Topic) (a : Option Addr) (cap : Nat) (p q : ByteArray) (w : World) (hl : SA w a l) (hlen : l.length ≤ 1000000) :
    Calls Tryz.prog 148 #[.slice a l.length cap, .string p, .string q] w (Gives (.string (meetS l p q)) w) := by
  have HA := Lib.hid (fun w hl => aboveOf_any l a cap p w hl hlen)
  have HB := Lib.hid (fun w hl => aboveOf_any l a cap q w hl hlen)
  change Hid (∀ (w : World) (hl : SA w a l), Calls _ _ _ w (GivesOwn _ (ab l p) w)) at HA
  change Hid (∀ (w : World) (hl : SA w a l), Calls _ _ _ w (GivesOwn _ (ab l q) w)) at HB
  have hm : meetS l p q = ((ab l p).find? (fun x => hasS (ab l q) x)).getD ⟨#[]⟩ := rfl
  have hlp := ab_length l p
  have hlq := ab_length l q
  rw [hm]
  clear hm
  generalize ab l p = rp at *
  generalize ab l q = rq at *
  go_enter Tryz.func148, Tryz.ntmps148
  go_wp2_with fail
  refine (HA.out _ hl).mono ?_
  rintro e w1 ⟨v1, rfl, hown1, hb1⟩
  obtain ⟨a1, cap1, rfl, hsa, hbl, hcp⟩ := hown1.sa
  clear HA hown1 hbl
  go_wp2_with fail
  go_loopg [13] rp.length (fun gk i wr => ∃ k : Nat, i = .int .i64 k ∧ k ≤ rp.length ∧ Hid (gk = rp.length - k) ∧ Hid (∀ j, (hj : j < rp.length) → j < k → hasS rq rp[j] = false) ∧ Below w1.heap.size w1 wr)
  case atStart => exact ⟨0, rfl, by omega, rfl, fun j _ hj => by omega, Below.refl _ _⟩
  case round =>
    obtain ⟨k, rfl, hk, hgk, hf, hb⟩ := hrel
    by_cases hlt : k < rp.length
    · obtain ⟨b, off, ha, c0⟩ := (hsa.below hb).str hlt
      rw [ha]
      have hone : hasS rq rp[k] = true → ((rp.find? (fun x => hasS rq x)).getD ⟨#[]⟩) = rp[k] := fun h => by
        rw [meet_drop rp hlt (fun j hj => hf.out j (by omega) hj) h]; rfl
      have hno : hasS rq rp[k] = false → ∀ j, (hj : j < rp.length) → j < k + 1 → hasS rq rp[j] = false := fun h j hj hjk => by
        by_cases e : j = k
        · subst e; exact h
        · exact hf.out j hj (by omega)
      have Hone := Lib.hid hone
      have Hno := Lib.hid hno
      clear hone hno
      generalize rp[k] = x at *
      have hbw := below_next hb1 hb
      go_wp2_with fail
      refine (HB.out _ (hl.below hbw)).mono ?_
      rintro e w2 ⟨v2, rfl, hown2, hb2⟩
      obtain ⟨a2, cap2, rfl, hsa2, hbl2, hcp2⟩ := hown2.sa
      go_wp2_with fail
      refine (contains_any rq a2 cap2 x w2 hsa2 (by omega)).mono ?_
      rintro e w3 ⟨rfl, rfl⟩
      cases hh : hasS rq x
      · have hh' : rq.any (fun y => decide (y = x)) = false := hh
        have Hn := Lib.hid (Hno.out hh)
        clear hh
        go_wp2_with fail
        rw [← ha]
        go_roundg (rp.length - (k + 1))
        case measure => have := hgk.out; omega
        case rel => exact ⟨k + 1, by go_num, by omega, rfl, Hn.out, below_next hb hb2⟩
      · have hh' : rq.any (fun y => decide (y = x)) = true := hh
        have Hn := Lib.hid (Hone.out hh)
        clear hh
        go_wp2_with fail
        go_ret
        exact ⟨by rw [Hn.out]; rfl, below_next hbw hb2⟩
    · obtain rfl : k = rp.length := by omega
      have hfin : ((rp.find? (fun x => hasS rq x)).getD ⟨#[]⟩) = (⟨#[]⟩ : ByteArray) := by
        rw [List.find?_eq_none.2 (fun x hx => by obtain ⟨j, hj, rfl⟩ := List.mem_iff_getElem.1 hx; rw [hf.out j hj hj]; simp)]; rfl
      have Hfin := Lib.hid hfin
      clear hfin hgk
      go_wp2_with fail
      go_ret
      exact ⟨by rw [Hfin.out]; rfl, below_next hb1 hb⟩

set_option maxRecDepth 100000 in
set_option maxHeartbeats 4000000 in
theorem nearOf_any (l : List Topic) (a : Option Addr) (cap : Nat) (p q : ByteArray) (w : World) (hl : SA w a l) (hlen : l.length ≤ 1000000) (hp : 1 ≤ (ab l p).length) :
    Calls Tryz.prog 127 #[.slice a l.length cap, .string p, .string q] w (Gives (nearV l p q) w) := by
  have HM := Lib.hid (fun w hl => meetOf_any l a cap p q w hl hlen)
  by_cases he : meetS l p q = ⟨#[]⟩
  · have hv : nearV l p q = .agg #[.int .i64 0, .int .i64 1] := by unfold nearV; rw [if_pos he]
    rw [hv]
    rw [he] at HM
    clear hv he
    go_enter Tryz.func127, Tryz.ntmps127
    go_wp2_with fail
    refine (HM.out _ (hl.alloc _)).mono ?_
    rintro e w1 ⟨rfl, hb1⟩
    have hR := (Box.new w 37 #[.int .i64 0, .int .i64 0]).below hb1
    have hR_l := hR.lt; have hR_0 := hR.cell 0; have hR_1 := hR.cell 1; simp at hR_0 hR_1
    have hR_f0 := hR.frozen 0; have hR_f1 := hR.frozen 1
    go_wp2_with fail
    refine bodyPost_ret (v := .agg #[.int .i64 0, .int .i64 1]) (by simp only [results, Tryz.results127]; go_simp) rfl ⟨rfl, ?_⟩
    have hz1 := hb1.size
    (repeat' (first | exact Below.refl _ _ | assumption | refine Below.setCell ?_ ?_ _ | refine below_drewN ?_ _ | refine Below.drew ?_ | refine Below.alloc ?_ ?_ _ | (with_reducible refine Below.trans ?_ (Below.mono hb ?_)) | (with_reducible refine Below.trans ?_ (Below.mono hb0 ?_)) | (with_reducible refine Below.trans ?_ (Below.mono hb1 ?_)) | (with_reducible refine Below.trans ?_ (Below.mono hb2 ?_)) | (with_reducible refine Below.trans ?_ (Below.mono hb3 ?_)) | (with_reducible refine Below.trans ?_ (Below.mono hb4 ?_)) | (with_reducible refine Below.trans ?_ (Below.mono hb5 ?_)) | (with_reducible refine Below.trans ?_ (Below.mono hb6 ?_)) | (with_reducible refine Below.trans ?_ (Below.mono hb7 ?_)) | (with_reducible refine Below.trans ?_ (Below.mono hb8 ?_)) | (with_reducible refine Below.trans ?_ (Below.mono hb9 ?_)) | (with_reducible refine Below.trans ?_ (Below.mono hb10 ?_)) | (with_reducible refine Below.trans ?_ (Below.mono hb11 ?_)) | (with_reducible refine Below.trans ?_ (Below.mono hb12 ?_)) | (with_reducible refine Below.trans ?_ (Below.mono hb13 ?_)) | (with_reducible refine Below.trans ?_ (Below.mono hb14 ?_)) | (with_reducible refine Below.trans ?_ (Below.mono hb15 ?_)) | omega | (simp; done) | (simp; omega)))
  · have hv : nearV l p q = low (2 * (ab l (meetS l p q)).length) ((ab l p).length + (ab l q).length) := by unfold nearV; rw [if_neg he]
    have hq1 : (meetS l p q).toList ≠ [] := fun h => he (toList_empty.1 (List.isEmpty_iff.2 h))
    have hq2 : (meetS l p q).toList.isEmpty = false := by simpa using hq1
    rw [hv]
    have HA := Lib.hid (fun w hl => aboveOf_any l a cap p w hl hlen)
    have HB := Lib.hid (fun w hl => aboveOf_any l a cap q w hl hlen)
    have HC := Lib.hid (fun w hl => aboveOf_any l a cap (meetS l p q) w hl hlen)
    change Hid (∀ (w : World) (hl : SA w a l), Calls _ _ _ w (GivesOwn _ (ab l p) w)) at HA
    change Hid (∀ (w : World) (hl : SA w a l), Calls _ _ _ w (GivesOwn _ (ab l q) w)) at HB
    change Hid (∀ (w : World) (hl : SA w a l), Calls _ _ _ w (GivesOwn _ (ab l (meetS l p q)) w)) at HC
    have hlp := ab_length l p
    have hlq := ab_length l q
    have hlm := ab_length l (meetS l p q)
    generalize ab l (meetS l p q) = rm at *
    generalize ab l p = rp at *
    generalize ab l q = rq at *
    generalize meetS l p q = m at *
    have HP := Lib.hid (fun w => part_any (2 * (rm.length : Int)) ((rp.length : Int) + rq.length) w (by omega) (by omega) (by omega))
    obtain ⟨n1, n2, hn⟩ : ∃ n1 n2 : Int, low (2 * (rm.length : Int)) ((rp.length : Int) + rq.length) = .agg #[.int .i64 n1, .int .i64 n2] := ⟨_, _, rfl⟩
    rw [hn] at HP
    rw [hn]
    clear hv he hn
    go_enter Tryz.func127, Tryz.ntmps127
    go_wp2_with fail
    refine (HM.out _ (hl.alloc _)).mono ?_
    rintro e w1 ⟨rfl, hb1⟩
    have hb1' : Below w.heap.size w w1 := by have hz1 := hb1.size; (repeat' (first | exact Below.refl _ _ | assumption | refine Below.setCell ?_ ?_ _ | refine below_drewN ?_ _ | refine Below.drew ?_ | refine Below.alloc ?_ ?_ _ | (with_reducible refine Below.trans ?_ (Below.mono hb ?_)) | (with_reducible refine Below.trans ?_ (Below.mono hb0 ?_)) | (with_reducible refine Below.trans ?_ (Below.mono hb1 ?_)) | (with_reducible refine Below.trans ?_ (Below.mono hb2 ?_)) | (with_reducible refine Below.trans ?_ (Below.mono hb3 ?_)) | (with_reducible refine Below.trans ?_ (Below.mono hb4 ?_)) | (with_reducible refine Below.trans ?_ (Below.mono hb5 ?_)) | (with_reducible refine Below.trans ?_ (Below.mono hb6 ?_)) | (with_reducible refine Below.trans ?_ (Below.mono hb7 ?_)) | (with_reducible refine Below.trans ?_ (Below.mono hb8 ?_)) | (with_reducible refine Below.trans ?_ (Below.mono hb9 ?_)) | (with_reducible refine Below.trans ?_ (Below.mono hb10 ?_)) | (with_reducible refine Below.trans ?_ (Below.mono hb11 ?_)) | (with_reducible refine Below.trans ?_ (Below.mono hb12 ?_)) | (with_reducible refine Below.trans ?_ (Below.mono hb13 ?_)) | (with_reducible refine Below.trans ?_ (Below.mono hb14 ?_)) | (with_reducible refine Below.trans ?_ (Below.mono hb15 ?_)) | omega | (simp; done) | (simp; omega)))
    have hR := (Box.new w 37 #[.int .i64 0, .int .i64 0]).below hb1
    go_wp2_with fail
    refine (HC.out _ (hl.below hb1')).mono ?_
    rintro e w2 ⟨v2, rfl, hown2, hb2⟩
    obtain ⟨a2, cap2, rfl, hsa2, hbl2, hcp2⟩ := hown2.sa
    have hb2' := below_next hb1' hb2
    go_wp2_with fail
    refine (HA.out _ (hl.below hb2')).mono ?_
    rintro e w3 ⟨v3, rfl, hown3, hb3⟩
    obtain ⟨a3, cap3, rfl, hsa3, hbl3, hcp3⟩ := hown3.sa
    have hb3' := below_next hb2' hb3
    go_wp2_with fail
    refine (HB.out _ (hl.below hb3')).mono ?_
    rintro e w4 ⟨v4, rfl, hown4, hb4⟩
    obtain ⟨a4, cap4, rfl, hsa4, hbl4, hcp4⟩ := hown4.sa
    have hb4' := below_next hb3' hb4
    go_wp2_with fail
    refine (HP.out _).mono ?_
    rintro e w5 ⟨rfl, hb5⟩
    have hb5' := below_next hb4' hb5
    replace hR := (((hR.below hb2).below hb3).below hb4).below hb5
    have hR_l := hR.lt; have hR_0 := hR.cell 0; have hR_1 := hR.cell 1; simp at hR_0 hR_1
    have hR_f0 := hR.frozen 0; have hR_f1 := hR.frozen 1
    go_wp2_with fail
    refine bodyPost_ret (v := .agg #[.int .i64 n1, .int .i64 n2]) (by simp only [results, Tryz.results127]; go_simp) rfl ⟨rfl, ?_⟩
    clear hb1 hb2 hb3 hb4 hb5
    (repeat' (first | exact Below.refl _ _ | assumption | refine Below.setCell ?_ ?_ _ | refine below_drewN ?_ _ | refine Below.drew ?_ | refine Below.alloc ?_ ?_ _ | (with_reducible refine Below.trans ?_ (Below.mono hb ?_)) | (with_reducible refine Below.trans ?_ (Below.mono hb0 ?_)) | (with_reducible refine Below.trans ?_ (Below.mono hb1 ?_)) | (with_reducible refine Below.trans ?_ (Below.mono hb2 ?_)) | (with_reducible refine Below.trans ?_ (Below.mono hb3 ?_)) | (with_reducible refine Below.trans ?_ (Below.mono hb4 ?_)) | (with_reducible refine Below.trans ?_ (Below.mono hb5 ?_)) | (with_reducible refine Below.trans ?_ (Below.mono hb6 ?_)) | (with_reducible refine Below.trans ?_ (Below.mono hb7 ?_)) | (with_reducible refine Below.trans ?_ (Below.mono hb8 ?_)) | (with_reducible refine Below.trans ?_ (Below.mono hb9 ?_)) | (with_reducible refine Below.trans ?_ (Below.mono hb10 ?_)) | (with_reducible refine Below.trans ?_ (Below.mono hb11 ?_)) | (with_reducible refine Below.trans ?_ (Below.mono hb12 ?_)) | (with_reducible refine Below.trans ?_ (Below.mono hb13 ?_)) | (with_reducible refine Below.trans ?_ (Below.mono hb14 ?_)) | (with_reducible refine Below.trans ?_ (Below.mono hb15 ?_)) | omega | (simp; done) | (simp; omega)))
end Go.Proofs.YtpgofjjcmldhpaaGreatDoor
