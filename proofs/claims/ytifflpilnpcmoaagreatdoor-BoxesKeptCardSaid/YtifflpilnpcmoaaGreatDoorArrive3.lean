/- Reasons, deadlines, and whether an arrival counts: of the program and of the reference. -/
import Derived.Test.YtifflpilnpcmoaaGreatDoorArrive2
namespace Go.Proofs.YtifflpilnpcmoaaGreatDoor
open Go.RowKit
set_option linter.unusedVariables false
set_option linter.unusedSimpArgs false

/-- The place of the first element with a property, or -1. -/
def idxP {α : Type} (p : α → Bool) (l : List α) : Int := match l.findIdx? p with | none => -1 | some i => (i : Int)
theorem idxP_at {α : Type} {p : α → Bool} {l : List α} {k : Nat} (hk : k < l.length) (h : ∀ j, (hj : j < l.length) → j < k → p l[j] = false) (hp : p l[k] = true) : idxP p l = k := by
  unfold idxP
  have : l.findIdx? p = some k := by
    rw [List.findIdx?_eq_some_iff_getElem]
    exact ⟨hk, hp, fun j hj => by simp [h j (by omega) hj]⟩
  rw [this]
theorem idxP_none {α : Type} {p : α → Bool} {l : List α} (h : ∀ j, (hj : j < l.length) → p l[j] = false) : idxP p l = -1 := by
  unfold idxP
  have : l.findIdx? p = none := by
    rw [List.findIdx?_eq_none_iff]
    intro x hx
    obtain ⟨j, hj, rfl⟩ := List.mem_iff_getElem.1 hx
    exact h j hj
  rw [this]
theorem idxP_find {α : Type} (p : α → Bool) (l : List α) : (idxP p l = -1 ∧ l.find? p = none) ∨ ∃ k, ∃ h : k < l.length, idxP p l = k ∧ l.find? p = some l[k] := by
  unfold idxP
  cases hf : l.findIdx? p with
  | none =>
    refine .inl ⟨rfl, ?_⟩
    rw [List.findIdx?_eq_none_iff] at hf
    rw [List.find?_eq_none]
    intro x hx
    simp [hf x hx]
  | some k =>
    rw [List.findIdx?_eq_some_iff_getElem] at hf
    obtain ⟨hk, hp, hn⟩ := hf
    refine .inr ⟨k, hk, rfl, ?_⟩
    rw [List.find?_eq_some_iff_getElem]
    exact ⟨hp, k, hk, rfl, fun j hj => by simpa using hn j hj⟩

set_option maxHeartbeats 1000000 in
theorem indexReason_any (s : List Skill) (a : Option Addr) (cap : Nat) (p : Skill → Bool) (g : Nat) (lb : Array Value) (w : World) (hs : SA w a s) (hlen : s.length ≤ 1000000)
    (hp : ∀ (W : World) (x : Skill), Below w.heap.size w W → Calls Tryz.prog g (#[.agg #[.string x.1, .int .i64 x.2]] ++ lb) W (fun e w' => e = .returned (.bool (p x)) ∧ Below w.heap.size w w'))
    (eg : ∀ args w, (callFunc g args).run Tryz.prog w = .ok (.enter g args) w) :
    Calls Tryz.prog 141 #[.slice a s.length cap, .func (.func g) #[] lb] w (Gives (.int .i64 (idxP p s)) w) := by
  have HP := Lib.hid hp
  clear hp
  go_enter Tryz.func141, Tryz.ntmps141
  go_wp2_with fail
  go_loopg [8] s.length (fun gk i wr => ∃ k : Nat, i = .int .i64 k ∧ k ≤ s.length ∧ Hid (gk = s.length - k) ∧ Hid (∀ j, (hj : j < s.length) → j < k → p s[j] = false) ∧ Below w.heap.size w wr)
  case atStart => exact ⟨0, rfl, by omega, rfl, fun j _ hj => by omega, Below.refl _ _⟩
  case round =>
    obtain ⟨k, rfl, hk, hgk, hn, hb⟩ := hrel
    by_cases hlt : k < s.length
    · obtain ⟨b, off, ha, c0, c1⟩ := (hs.below hb).skill hlt
      have HC := Lib.hid (HP.out wr s[k] hb)
      have HN := Lib.hid (show p s[k] = false → ∀ j, (hj : j < s.length) → j < k + 1 → p s[j] = false from fun h j hj hl => by
        by_cases hjk : j = k
        · subst hjk; exact h
        · exact hn.out j hj (by omega))
      have HY := Lib.hid (show p s[k] = true → idxP p s = k from fun h => idxP_at hlt hn.out h)
      rw [ha]
      generalize s[k] = x at *
      obtain ⟨x1, x2⟩ := x
      simp only at c0 c1 HC
      cases hpx : p (x1, x2)
      · rw [hpx] at HC
        go_wp2_with (go_at_fn g; refine HC.out.mono ?_; rintro e w1 ⟨rfl, hb1⟩)
        rw [← ha]
        go_roundg (s.length - (k + 1))
        case measure => have := hgk.out; omega
        case rel => exact ⟨k + 1, by go_num, by omega, rfl, HN.out hpx, hb1⟩
      · rw [hpx] at HC
        go_wp2_with (go_at_fn g; refine HC.out.mono ?_; rintro e w1 ⟨rfl, hb1⟩)
        go_ret
        exact ⟨by rw [HY.out hpx]; rfl, hb1⟩
    · have HV := Lib.hid (show idxP p s = -1 from idxP_none (fun j hj => hn.out j hj (by omega)))
      go_wp2_with fail
      go_ret
      exact ⟨by rw [HV.out]; rfl, hb⟩

def moreN (s : List Skill) (r : ByteArray) : Int := if r.size = 0 then 0 else ((s.find? (fun x => decide (x.1 = r))).map (·.2)).getD 0
def moreB (s : List Skill) (r : ByteArray) : Bool := decide (r.size = 0) || (s.find? (fun x => decide (x.1 = r))).isSome
theorem moreN_bd {s : List Skill} {r : ByteArray} (h : ∀ x ∈ s, 0 ≤ x.2 ∧ x.2 ≤ 10000000) : 0 ≤ moreN s r ∧ moreN s r ≤ 10000000 := by
  unfold moreN
  split
  · omega
  · cases hf : s.find? (fun x => decide (x.1 = r)) with
    | none => simp
    | some x => simpa using h x (List.mem_of_find?_eq_some hf)
def befN (a f k : Int) : Int := if k = 1 then a else if k = 2 then f else 5761440
theorem beq_ba (a b : ByteArray) : (a.toList == b.toList) = decide (a = b) := by
  rw [Bool.eq_iff_iff, beq_iff_eq, toList_inj, decide_eq_true_eq]

set_option maxHeartbeats 1000000 in
theorem moreF_any (r : ByteArray) (x : Skill) (B : Nat) (W : World) (hc : W.cell? ⟨B, 0, none⟩ = some (.string r)) :
    Calls Tryz.prog 142 #[.agg #[.string x.1, .int .i64 x.2], .pointer (some ⟨B, 0, none⟩)] W (Gives (.bool (decide (x.1 = r))) W) := by
  have hl := cell_lt hc
  have hne : B ≠ W.heap.size := by omega
  have HB := Lib.hid (beq_ba x.1 r)
  by_cases h : x.1 = r
  · rw [decide_eq_true h]
    have h' : x.1.toList = r.toList := by rw [h]
    clear h
    go_enter Tryz.func142, Tryz.ntmps142
    go_wp2_with fail
    go_ret
    exact ⟨by simp, by (repeat' (first | exact Below.refl _ _ | assumption | refine Below.setCell ?_ ?_ _ | refine below_drewN ?_ _ | refine Below.drew ?_ | refine Below.alloc ?_ ?_ _ | (with_reducible refine Below.trans ?_ (Below.mono hb ?_)) | (with_reducible refine Below.trans ?_ (Below.mono hb0 ?_)) | (with_reducible refine Below.trans ?_ (Below.mono hb1 ?_)) | (with_reducible refine Below.trans ?_ (Below.mono hb2 ?_)) | (with_reducible refine Below.trans ?_ (Below.mono hb3 ?_)) | (with_reducible refine Below.trans ?_ (Below.mono hb4 ?_)) | (with_reducible refine Below.trans ?_ (Below.mono hb5 ?_)) | (with_reducible refine Below.trans ?_ (Below.mono hb6 ?_)) | (with_reducible refine Below.trans ?_ (Below.mono hb7 ?_)) | (with_reducible refine Below.trans ?_ (Below.mono hb8 ?_)) | (with_reducible refine Below.trans ?_ (Below.mono hb9 ?_)) | (with_reducible refine Below.trans ?_ (Below.mono hb10 ?_)) | (with_reducible refine Below.trans ?_ (Below.mono hb11 ?_)) | (with_reducible refine Below.trans ?_ (Below.mono hb12 ?_)) | (with_reducible refine Below.trans ?_ (Below.mono hb13 ?_)) | (with_reducible refine Below.trans ?_ (Below.mono hb14 ?_)) | (with_reducible refine Below.trans ?_ (Below.mono hb15 ?_)) | omega | (simp; done) | (simp; omega)))⟩
  · rw [decide_eq_false h]
    have h' : ¬ x.1.toList = r.toList := fun e => h (toList_inj.1 e)
    clear h
    go_enter Tryz.func142, Tryz.ntmps142
    go_wp2_with fail
    go_ret
    exact ⟨by simp [h'], by (repeat' (first | exact Below.refl _ _ | assumption | refine Below.setCell ?_ ?_ _ | refine below_drewN ?_ _ | refine Below.drew ?_ | refine Below.alloc ?_ ?_ _ | (with_reducible refine Below.trans ?_ (Below.mono hb ?_)) | (with_reducible refine Below.trans ?_ (Below.mono hb0 ?_)) | (with_reducible refine Below.trans ?_ (Below.mono hb1 ?_)) | (with_reducible refine Below.trans ?_ (Below.mono hb2 ?_)) | (with_reducible refine Below.trans ?_ (Below.mono hb3 ?_)) | (with_reducible refine Below.trans ?_ (Below.mono hb4 ?_)) | (with_reducible refine Below.trans ?_ (Below.mono hb5 ?_)) | (with_reducible refine Below.trans ?_ (Below.mono hb6 ?_)) | (with_reducible refine Below.trans ?_ (Below.mono hb7 ?_)) | (with_reducible refine Below.trans ?_ (Below.mono hb8 ?_)) | (with_reducible refine Below.trans ?_ (Below.mono hb9 ?_)) | (with_reducible refine Below.trans ?_ (Below.mono hb10 ?_)) | (with_reducible refine Below.trans ?_ (Below.mono hb11 ?_)) | (with_reducible refine Below.trans ?_ (Below.mono hb12 ?_)) | (with_reducible refine Below.trans ?_ (Below.mono hb13 ?_)) | (with_reducible refine Below.trans ?_ (Below.mono hb14 ?_)) | (with_reducible refine Below.trans ?_ (Below.mono hb15 ?_)) | omega | (simp; done) | (simp; omega)))⟩

set_option maxHeartbeats 2000000 in
theorem more_any (o a f : Int) (s : List Skill) (a3 : Option Addr) (c3 : Nat) (r : ByteArray) (w : World) (hs : SA w a3 s) (hsl : s.length ≤ 1000000) :
    Calls Tryz.prog 96 #[callAgg o a f s a3 c3, .string r] w (Gives (.tuple #[.int .i64 (moreN s r), .bool (moreB s r)]) w) := by
  unfold callAgg
  by_cases hr0 : r.size = 0
  · have hr1 := str_empty hr0
    have HN := Lib.hid (show moreN s r = 0 by unfold moreN; rw [if_pos hr0])
    have HB := Lib.hid (show moreB s r = true by unfold moreB; rw [decide_eq_true hr0]; rfl)
    clear hr0
    go_enter Tryz.func96, Tryz.ntmps96
    go_wp2_with fail
    go_ret2
    exact ⟨by rw [HN.out, HB.out]; rfl, by (repeat' (first | exact Below.refl _ _ | assumption | refine Below.setCell ?_ ?_ _ | refine below_drewN ?_ _ | refine Below.drew ?_ | refine Below.alloc ?_ ?_ _ | (with_reducible refine Below.trans ?_ (Below.mono hb ?_)) | (with_reducible refine Below.trans ?_ (Below.mono hb0 ?_)) | (with_reducible refine Below.trans ?_ (Below.mono hb1 ?_)) | (with_reducible refine Below.trans ?_ (Below.mono hb2 ?_)) | (with_reducible refine Below.trans ?_ (Below.mono hb3 ?_)) | (with_reducible refine Below.trans ?_ (Below.mono hb4 ?_)) | (with_reducible refine Below.trans ?_ (Below.mono hb5 ?_)) | (with_reducible refine Below.trans ?_ (Below.mono hb6 ?_)) | (with_reducible refine Below.trans ?_ (Below.mono hb7 ?_)) | (with_reducible refine Below.trans ?_ (Below.mono hb8 ?_)) | (with_reducible refine Below.trans ?_ (Below.mono hb9 ?_)) | (with_reducible refine Below.trans ?_ (Below.mono hb10 ?_)) | (with_reducible refine Below.trans ?_ (Below.mono hb11 ?_)) | (with_reducible refine Below.trans ?_ (Below.mono hb12 ?_)) | (with_reducible refine Below.trans ?_ (Below.mono hb13 ?_)) | (with_reducible refine Below.trans ?_ (Below.mono hb14 ?_)) | (with_reducible refine Below.trans ?_ (Below.mono hb15 ?_)) | omega | (simp; done) | (simp; omega)))⟩
  · obtain ⟨hr1, hr2⟩ := str_full hr0
    have HN := Lib.hid (show moreN s r = ((s.find? (fun x => decide (x.1 = r))).map (·.2)).getD 0 by unfold moreN; rw [if_neg hr0])
    have HB := Lib.hid (show moreB s r = (s.find? (fun x => decide (x.1 = r))).isSome by unfold moreB; rw [decide_eq_false hr0]; rfl)
    have eg : ∀ args w, (callFunc 142 args).run Tryz.prog w = .ok (.enter 142 args) w := enters_of Tryz.func142 (by kernel_rfl) rfl
    have hbc := Box.new w 28 #[.int .i64 o, .int .i64 a, .int .i64 f, .slice a3 s.length c3]
    have HW : Hid (∀ W : World, Below w.heap.size w W → Box W (w.heap.size + 1) 9 #[.string r] → Calls Tryz.prog 141 #[.slice a3 s.length c3, .func (.func 142) #[] #[.pointer (some ⟨w.heap.size + 1, 0, none⟩)]] W (Gives (.int .i64 (idxP (fun x => decide (x.1 = r)) s)) W)) := fun W hb hbox =>
      indexReason_any s a3 c3 (fun x => decide (x.1 = r)) _ _ W (hs.below hb) hsl (fun W' x hb' => (moreF_any r x _ W' ((hbox.below hb').cell 0)).mono fun e w' ⟨h1, h2⟩ => ⟨h1, below_next hb' h2⟩) eg
    clear eg hr0
    have hI := idxP_find (fun x : Skill => decide (x.1 = r)) s
    generalize idxP (fun x : Skill => decide (x.1 = r)) s = ix at *
    generalize s.find? (fun x : Skill => decide (x.1 = r)) = fx at *
    go_enter Tryz.func96, Tryz.ntmps96
    go_wp2_with fail
    refine (HW.out _ (by (repeat' (first | exact Below.refl _ _ | assumption | refine Below.setCell ?_ ?_ _ | refine below_drewN ?_ _ | refine Below.drew ?_ | refine Below.alloc ?_ ?_ _ | (with_reducible refine Below.trans ?_ (Below.mono hb ?_)) | (with_reducible refine Below.trans ?_ (Below.mono hb0 ?_)) | (with_reducible refine Below.trans ?_ (Below.mono hb1 ?_)) | (with_reducible refine Below.trans ?_ (Below.mono hb2 ?_)) | (with_reducible refine Below.trans ?_ (Below.mono hb3 ?_)) | (with_reducible refine Below.trans ?_ (Below.mono hb4 ?_)) | (with_reducible refine Below.trans ?_ (Below.mono hb5 ?_)) | (with_reducible refine Below.trans ?_ (Below.mono hb6 ?_)) | (with_reducible refine Below.trans ?_ (Below.mono hb7 ?_)) | (with_reducible refine Below.trans ?_ (Below.mono hb8 ?_)) | (with_reducible refine Below.trans ?_ (Below.mono hb9 ?_)) | (with_reducible refine Below.trans ?_ (Below.mono hb10 ?_)) | (with_reducible refine Below.trans ?_ (Below.mono hb11 ?_)) | (with_reducible refine Below.trans ?_ (Below.mono hb12 ?_)) | (with_reducible refine Below.trans ?_ (Below.mono hb13 ?_)) | (with_reducible refine Below.trans ?_ (Below.mono hb14 ?_)) | (with_reducible refine Below.trans ?_ (Below.mono hb15 ?_)) | omega | (simp; done) | (simp; omega)))) (Box.newAt _ _ _ _ (by simp))).mono ?_
    rintro e w1 ⟨rfl, hb1⟩
    have hz := hb1.size
    simp at hz
    have hbc1 := ((hbc.alloc (.cells #[.string r] 9)).below hb1)
    have hb1' : Below w.heap.size w w1 := by (repeat' (first | exact Below.refl _ _ | assumption | refine Below.setCell ?_ ?_ _ | refine below_drewN ?_ _ | refine Below.drew ?_ | refine Below.alloc ?_ ?_ _ | (with_reducible refine Below.trans ?_ (Below.mono hb ?_)) | (with_reducible refine Below.trans ?_ (Below.mono hb0 ?_)) | (with_reducible refine Below.trans ?_ (Below.mono hb1 ?_)) | (with_reducible refine Below.trans ?_ (Below.mono hb2 ?_)) | (with_reducible refine Below.trans ?_ (Below.mono hb3 ?_)) | (with_reducible refine Below.trans ?_ (Below.mono hb4 ?_)) | (with_reducible refine Below.trans ?_ (Below.mono hb5 ?_)) | (with_reducible refine Below.trans ?_ (Below.mono hb6 ?_)) | (with_reducible refine Below.trans ?_ (Below.mono hb7 ?_)) | (with_reducible refine Below.trans ?_ (Below.mono hb8 ?_)) | (with_reducible refine Below.trans ?_ (Below.mono hb9 ?_)) | (with_reducible refine Below.trans ?_ (Below.mono hb10 ?_)) | (with_reducible refine Below.trans ?_ (Below.mono hb11 ?_)) | (with_reducible refine Below.trans ?_ (Below.mono hb12 ?_)) | (with_reducible refine Below.trans ?_ (Below.mono hb13 ?_)) | (with_reducible refine Below.trans ?_ (Below.mono hb14 ?_)) | (with_reducible refine Below.trans ?_ (Below.mono hb15 ?_)) | omega | (simp; done) | (simp; omega)))
    clear hbc
    have hbc1_l := hbc1.lt; have hbc1_0 := hbc1.cell 0; have hbc1_1 := hbc1.cell 1; have hbc1_2 := hbc1.cell 2; have hbc1_3 := hbc1.cell 3; simp at hbc1_0 hbc1_1 hbc1_2 hbc1_3
    rcases hI with ⟨rfl, rfl⟩ | ⟨k, hk, rfl, rfl⟩
    · go_wp2_with fail
      go_ret2
      exact ⟨by rw [HN.out, HB.out]; rfl, hb1'⟩
    · obtain ⟨b, off, ha, c0, c1⟩ := (hs.below hb1').skill hk
      rw [ha] at hbc1_3
      have HN' := Lib.hid (show moreN s r = s[k].2 from HN.out)
      have HB' := Lib.hid (show moreB s r = true from HB.out)
      clear HN HB c0
      generalize s[k].2 = y at *
      have hk0 : ¬ (k : Int) < 0 := by omega
      go_wp2_with fail
      go_ret2
      exact ⟨by rw [HN'.out, HB'.out]; rfl, hb1'⟩
end Go.Proofs.YtifflpilnpcmoaaGreatDoor
