/- An affinity is a fraction in lowest terms, at most one. -/
import Derived.Test.YtpgofjjcmldhpaaGreatDoorSkill6
import Derived.Test.YtpgofjjcmldhpaaGreatDoorField
import Derived.Test.YtpgofjjcmldhpaaGreatDoorFrac
import Derived.Test.YtpgofjjcmldhpaaGreatDoorReg
import Derived.Test.YtpgofjjcmldhpaaGreatDoorMark
import Derived.Test.YtpgofjjcmldhpaaGreatDoorSkill5
/-! An affinity is a fraction in lowest terms, at most one. -/
namespace Go.Proofs.YtpgofjjcmldhpaaGreatDoor
open Go.RowKit
set_option linter.unusedVariables false
set_option linter.unusedSimpArgs false

theorem above_more {K : Type} [DecidableEq K] (l : List (K × K)) : ∀ (n m : Nat) (k : K), (ForestPure.aboveN l n k).length < n → (ForestPure.aboveN l m k).length ≤ (ForestPure.aboveN l n k).length
  | 0, m, k, h => absurd h (by omega)
  | n + 1, 0, k, h => by simp [ForestPure.aboveN]
  | n + 1, m + 1, k, h => by
    unfold ForestPure.aboveN at h ⊢
    cases ht : ForestPure.topicOf l k with
    | none => simp
    | some t =>
      rw [ht] at h
      simp only [List.length_cons] at h ⊢
      have := above_more l n m t.2 (by omega)
      omega
theorem above_in {K : Type} [DecidableEq K] (l : List (K × K)) : ∀ (n m : Nat) (k x : K), (ForestPure.aboveN l n k).length < n → x ∈ ForestPure.aboveN l n k → (ForestPure.aboveN l m x).length ≤ (ForestPure.aboveN l n k).length
  | 0, m, k, x, h, hx => absurd h (by omega)
  | n + 1, m, k, x, h, hx => by
    have hm := above_more l (n + 1) m k h
    unfold ForestPure.aboveN at h hx
    have e : ForestPure.aboveN l (n + 1) k = match ForestPure.topicOf l k with | none => [] | some t => k :: ForestPure.aboveN l n t.2 := rfl
    cases ht : ForestPure.topicOf l k with
    | none => rw [ht] at hx; cases hx
    | some t =>
      rw [ht] at h hx e
      simp only at h hx e
      rw [List.length_cons] at h
      rcases List.mem_cons.1 hx with rfl | hx'
      · exact hm
      · have := above_in l n m t.2 x (by omega) hx'
        rw [e, List.length_cons]
        omega
theorem ab_in {l : List Topic} {k x : ByteArray} (hx : x ∈ ab l k) : (ab l x).length ≤ (ab l k).length := by
  have h1 := ab_length l x
  have h2 := ab_length l k
  by_cases h : (ab l k).length < l.length + 1
  · exact above_in l (l.length + 1) (l.length + 1) k x h hx
  · omega
theorem meet_le {l : List Topic} {a b : ByteArray} (h : meetS l a b ≠ ⟨#[]⟩) : (ab l (meetS l a b)).length ≤ (ab l a).length ∧ (ab l (meetS l a b)).length ≤ (ab l b).length := by
  cases hf : (ab l a).find? (fun x => hasS (ab l b) x) with
  | none => exact absurd (show meetS l a b = ⟨#[]⟩ by unfold meetS; rw [hf]; rfl) h
  | some x =>
    have e : meetS l a b = x := by unfold meetS; rw [hf]; rfl
    rw [e]
    have h1 := List.mem_of_find?_eq_some hf
    have h2 := List.find?_some hf
    have h3 : x ∈ ab l b := by
      unfold hasS at h2
      obtain ⟨y, hy, he⟩ := List.any_eq_true.1 h2
      have : y = x := by simpa using he
      rwa [this] at hy
    exact ⟨ab_in h1, ab_in h3⟩
theorem near_le {l : List Topic} {a b : ByteArray} (hp : 1 ≤ (ab l a).length) : nearN l a b ≤ nearD l a b := by
  unfold nearN nearD
  split
  · decide
  · rename_i h
    obtain ⟨h1, h2⟩ := meet_le h
    have := low_le (2 * (ab l (meetS l a b)).length) ((ab l a).length + (ab l b).length) 1 (by omega) (by omega) (by omega)
    omega
theorem part_le {l : List Topic} {x : Skill} (t : ByteArray) (hlen : l.length ≤ 1000) (h : 1 ≤ (ab l x.1).length ∧ 0 ≤ x.2 ∧ x.2 ≤ 100) : partN l t x ≤ partD l t x := by
  have hb := part_bd t hlen h
  have hn := near_le (b := t) h.1
  obtain ⟨n1, n2, n3, n4⟩ := near_bd l x.1 t hlen h.1
  unfold partN partD
  have h2 : x.2 * nearN l x.1 t ≤ 100 * nearD l x.1 t := Int.mul_le_mul h.2.2 hn n1 (by omega)
  have := low_le (x.2 * nearN l x.1 t) (100 * nearD l x.1 t) 1 hb.1.1 hb.2.1.1 (by omega)
  omega
theorem best_le {l : List Topic} {s : List Skill} (t : ByteArray) (hlen : l.length ≤ 1000) (h : SkillOk l s) : (bestOf l s t).2.1 ≤ (bestOf l s t).2.2 := by
  unfold bestOf
  have : ∀ (s : List Skill) (o : Known), SkillOk l s → o.2.1 ≤ o.2.2 → (s.foldl (bestStep l t) o).2.1 ≤ (s.foldl (bestStep l t) o).2.2 := by
    intro s
    induction s with
    | nil => intro o _ h; exact h
    | cons x r ih =>
      intro o hs ho
      rw [List.foldl_cons]
      refine ih _ (fun y hy => hs y (List.mem_cons_of_mem _ hy)) ?_
      unfold bestStep
      split
      · exact part_le t hlen (hs x (List.mem_cons_self ..))
      · exact ho
  exact this s _ h (by simp)
theorem aff_one {bs : List Known} (h : ∀ b ∈ bs, KnownFit b ∧ b.2.1 ≤ b.2.2) : (affOf bs).1 ≤ (bs.length : Int) * (affOf bs).2 := by
  have : ∀ (bs : List Known) (o : Int × Int) (A : Int), (∀ b ∈ bs, KnownFit b ∧ b.2.1 ≤ b.2.2) → (0 ≤ o.1 ∧ 1 ≤ o.2 ∧ o.2 ∣ 252000 ∧ o.1 ≤ A * o.2) →
      (bs.foldl affStep o).1 ≤ (A + bs.length) * (bs.foldl affStep o).2 := by
    intro bs
    induction bs with
    | nil => intro o A _ h; simpa using h.2.2.2
    | cons b r ih =>
      intro o A hb ho
      rw [List.foldl_cons]
      obtain ⟨o1, o2, o3, o4⟩ := ho
      obtain ⟨⟨b1, b2, b3, b4⟩, b5⟩ := hb b (List.mem_cons_self ..)
      have hk := sum_keeps o.1 o.2 b.2.1 b.2.2 252000 A 1 o1 o2 b1 b2 o3 b3 o4 (by omega)
      have := ih (affStep o b) (A + 1) (fun y hy => hb y (List.mem_cons_of_mem _ hy)) ⟨hk.2.1, hk.2.2.2, hk.1, hk.2.2.1⟩
      rw [List.length_cons]
      have e : A + ((r.length + 1 : Nat) : Int) = A + 1 + (r.length : Int) := by omega
      rw [e]
      exact this
  have := this bs (0, 1) 0 h ⟨by simp, by simp, by simp, by simp⟩
  simpa [affOf] using this
def affP (l : List Topic) (s : List Skill) (ts : List ByteArray) : Int := if ts.length = 0 then 0 else lowN (affOf (knowns l s ts)).1 ((affOf (knowns l s ts)).2 * ts.length)
def affQ (l : List Topic) (s : List Skill) (ts : List ByteArray) : Int := if ts.length = 0 then 1 else lowD (affOf (knowns l s ts)).1 ((affOf (knowns l s ts)).2 * ts.length)
theorem affV_eq (l : List Topic) (s : List Skill) (ts : List ByteArray) : affV l s ts = .agg #[.int .i64 (affP l s ts), .int .i64 (affQ l s ts)] := by
  unfold affV affP affQ low
  split <;> rfl
theorem aff_right {l : List Topic} {s : List Skill} {ts : List ByteArray} (hlen : l.length ≤ 1000) (hs : SkillFit l s) (ht : ∀ t ∈ ts, (ab l t).length ≤ 5) (h8 : ts.length ≤ 8) :
    rightB (affP l s ts) (affQ l s ts) = true ∧ affP l s ts ≤ affQ l s ts ∧ 0 ≤ affP l s ts ∧ affP l s ts ≤ 1000000000 ∧ 1 ≤ affQ l s ts := by
  obtain ⟨⟨q1, q2⟩, q3, q4⟩ := aff_bd hlen hs ht h8
  have h1 := aff_one (bs := knowns l s ts) (fun b hb => by
    obtain ⟨t, htm, rfl⟩ := List.mem_map.1 hb
    exact ⟨best_fit t hlen hs (ht t htm), best_le t hlen hs.ok⟩)
  rw [show (knowns l s ts).length = ts.length by simp [knowns]] at h1
  unfold affP affQ
  by_cases h0 : ts.length = 0
  · rw [if_pos h0, if_pos h0]; decide
  · rw [if_neg h0, if_neg h0]
    generalize (affOf (knowns l s ts)).1 = a at *
    generalize (affOf (knowns l s ts)).2 = b at *
    obtain ⟨m1, m2⟩ := mul_bd2 (by omega : 0 ≤ b) q4 (by omega : (0 : Int) ≤ (ts.length : Int)) (by omega : (ts.length : Int) ≤ 8)
    have m3 := mul_pos b (ts.length : Int) q3 (by omega)
    have h2 : a ≤ 1 * (b * (ts.length : Int)) := by rw [Int.one_mul, Int.mul_comm]; exact h1
    have e1 := lowN_bd a (b * ts.length) q1 m3
    have e2 := lowD_bd a (b * ts.length) m3
    have e3 := low_le a (b * ts.length) 1 q1 m3 h2
    have e4 := low_coprime a (b * ts.length) m3
    refine ⟨(rightB_iff _ _).2 ⟨e2.1, by omega, e1.1, by omega, e4⟩, by omega, e1.1, by omega, e2.1⟩
end Go.Proofs.YtpgofjjcmldhpaaGreatDoor

/-! The level of a bid: levelOf of the reference, and what a field holds. -/
namespace Go.Proofs.YtpgofjjcmldhpaaGreatDoor
open Go.RowKit
set_option linter.unusedVariables false
set_option linter.unusedSimpArgs false

/-- The level that the first bid of a pair gives. -/
def lvO (bs : List Mark) (k : Two) : Int :=
  match bs.find? (fun x => decide (keyB2 x = k)) with
  | none => 0
  | some x => x.2.2
theorem lvO_mem {bs : List Mark} {k : Two} {x : Mark} (h : bs.find? (fun x => decide (keyB2 x = k)) = some x) : lvO bs k = x.2.2 := by unfold lvO; rw [h]
theorem lvO_none {bs : List Mark} {k : Two} (h : bs.find? (fun x => decide (keyB2 x = k)) = none) : lvO bs k = 0 := by unfold lvO; rw [h]
/-- Bids without a fault have a pair each. -/
theorem bids_ord {bs : List Mark} (h : bidsFault bs = 0) {k : Nat} (hk : k < bs.length) : badOrd bs k = false := by
  unfold bidsFault at h
  split at h
  · exact absurd h (by decide)
  have h1 := firstErr_all h k hk
  unfold bidE at h1
  rw [List.getElem?_eq_getElem hk] at h1
  simp only at h1
  split at h1
  · exact absurd h1 (by decide)
  cases ho : badOrd bs k
  · rfl
  · rw [ho, if_pos rfl] at h1; exact absurd h1 (by decide)
theorem bids_level {bs : List Mark} (h : bidsFault bs = 0) {x : Mark} (hx : x ∈ bs) : 1 ≤ x.2.2 ∧ x.2.2 ≤ 4 := by
  obtain ⟨k, hk, rfl⟩ := List.getElem_of_mem hx
  unfold bidsFault at h
  split at h
  · exact absurd h (by decide)
  have h1 := firstErr_all h k hk
  unfold bidE at h1
  rw [List.getElem?_eq_getElem hk] at h1
  simp only at h1
  split at h1
  · exact absurd h1 (by decide)
  split at h1
  · exact absurd h1 (by decide)
  split at h1
  · exact absurd h1 (by decide)
  · rename_i h2
    simp only [Bool.or_eq_true, decide_eq_true_eq, not_or] at h2
    omega
theorem lvO_bd {bs : List Mark} (h : bidsFault bs = 0) (k : Two) : 0 ≤ lvO bs k ∧ lvO bs k ≤ 4 := by
  cases hf : bs.find? (fun x => decide (keyB2 x = k)) with
  | none => rw [lvO_none hf]; omega
  | some x => rw [lvO_mem hf]; have := bids_level h (List.mem_of_find?_eq_some hf); omega
theorem gget_find (bs : List Mark) (k : Two) : gget (bs.map (fun x => (keyB2 x, Value.int .i64 x.2.2))) k = (bs.find? (fun x => decide (keyB2 x = k))).map (fun x => Value.int .i64 x.2.2) := by
  induction bs with
  | nil => rfl
  | cons x r ih =>
    rw [List.map_cons, gget, List.find?_cons]
    by_cases h : keyB2 x = k
    · rw [if_pos h, decide_eq_true h]; rfl
    · rw [if_neg h, decide_eq_false h]; exact ih
theorem lvE_map : ∀ (bs : List Mark) (hn : (bs.map keyB2).Nodup), lvE bs = bs.map (fun x => (keyB2 x, Value.int .i64 x.2.2)) := by
  intro bs
  generalize hn : bs.length = n
  induction n generalizing bs with
  | zero => intro _; rw [List.length_eq_zero_iff.1 hn]; rfl
  | succ n ih =>
    intro hd
    obtain ⟨r, x, rfl⟩ : ∃ r x, bs = r ++ [x] := ⟨bs.dropLast, bs.getLast (by intro e; rw [e] at hn; simp at hn), (List.dropLast_concat_getLast _).symm⟩
    rw [List.map_append, List.nodup_append] at hd
    rw [lvE_snoc, ih r (by simp at hn; omega) hd.1, gput_new, List.map_append]
    · rfl
    · intro hm
      rw [List.map_map] at hm
      exact hd.2.2 _ hm _ (by simp) rfl
theorem looked_lv {bs : List Mark} (hn : (bs.map keyB2).Nodup) (k : Two) : glooked (lvE bs) k (.int .i64 0) false = .int .i64 (lvO bs k) := by
  unfold glooked
  rw [lvE_map bs hn, gget_find]
  unfold lvO
  cases bs.find? (fun x => decide (keyB2 x = k)) <;> rfl

set_option maxHeartbeats 2000000 in
theorem levelOf_any (bs : List Mark) (ba : Option Addr) (bc : Nat) (k1 k2 : ByteArray) (w : World) (hB : SA w ba bs) (hbl : bs.length ≤ 1000000) :
    Calls Tryz.prog 83 #[.slice ba bs.length bc, .agg #[.string k1, .string k2]] w (Gives (.int .i64 (lvO bs (k1, k2))) w) := by
  go_enter Tryz.func83, Tryz.ntmps83
  have hb0 : Below w.heap.size w (w.alloc (.cells #[.string k1, .string k2] 94)) := by (repeat' (first | exact Below.refl _ _ | assumption | refine Below.setCell ?_ ?_ _ | refine below_drewN ?_ _ | refine Below.drew ?_ | refine Below.alloc ?_ ?_ _ | (with_reducible refine Below.trans ?_ (Below.mono hb ?_)) | (with_reducible refine Below.trans ?_ (Below.mono hb0 ?_)) | (with_reducible refine Below.trans ?_ (Below.mono hb1 ?_)) | (with_reducible refine Below.trans ?_ (Below.mono hb2 ?_)) | (with_reducible refine Below.trans ?_ (Below.mono hb3 ?_)) | (with_reducible refine Below.trans ?_ (Below.mono hb4 ?_)) | (with_reducible refine Below.trans ?_ (Below.mono hb5 ?_)) | (with_reducible refine Below.trans ?_ (Below.mono hb6 ?_)) | (with_reducible refine Below.trans ?_ (Below.mono hb7 ?_)) | (with_reducible refine Below.trans ?_ (Below.mono hb8 ?_)) | (with_reducible refine Below.trans ?_ (Below.mono hb9 ?_)) | (with_reducible refine Below.trans ?_ (Below.mono hb10 ?_)) | (with_reducible refine Below.trans ?_ (Below.mono hb11 ?_)) | (with_reducible refine Below.trans ?_ (Below.mono hb12 ?_)) | (with_reducible refine Below.trans ?_ (Below.mono hb13 ?_)) | (with_reducible refine Below.trans ?_ (Below.mono hb14 ?_)) | (with_reducible refine Below.trans ?_ (Below.mono hb15 ?_)) | omega | (simp; done) | (simp; omega)))
  have hc0 := Box.new w 94 #[.string k1, .string k2]
  have hz0 : w.heap.size < (w.alloc (.cells #[.string k1, .string k2] 94)).heap.size := by simp
  go_wp2_with fail
  generalize w.alloc (.cells #[.string k1, .string k2] 94) = W0 at *
  go_loopg [9] bs.length (fun gk i wr => ∃ k : Nat, i = .int .i64 k ∧ k ≤ bs.length ∧ Hid (gk = bs.length - k) ∧ Hid (bs.find? (fun x => decide (keyB2 x = (k1, k2))) = (bs.drop k).find? (fun x => decide (keyB2 x = (k1, k2)))) ∧ Below W0.heap.size W0 wr)
  case atStart => exact ⟨0, rfl, by omega, rfl, rfl, Below.refl _ _⟩
  obtain ⟨k, rfl, hk, hgk, hf, hb⟩ := hrel
  have hzr := hb.size
  by_cases hlt : k < bs.length
  · obtain ⟨pb, poff, ha, c0, c1, c2⟩ := ((hB.below hb0).below hb).mark hlt
    have Hdr := Lib.hid (List.drop_eq_getElem_cons hlt)
    have Ha := Lib.hid ha
    rw [ha]
    clear ha
    generalize bs[k] = p at *
    obtain ⟨x1, x2, x3⟩ := p
    simp only at c0 c1 c2 Hdr
    have hc := (hc0.below hb).alloc (.cells #[.string x1, .string x2, .int .i64 x3] 96)
    have hcc0 := hc.cell 0
    have hcc1 := hc.cell 1
    have hba : Below W0.heap.size W0 (wr.alloc (.cells #[.string x1, .string x2, .int .i64 x3] 96)) := by (repeat' (first | exact Below.refl _ _ | assumption | refine Below.setCell ?_ ?_ _ | refine below_drewN ?_ _ | refine Below.drew ?_ | refine Below.alloc ?_ ?_ _ | (with_reducible refine Below.trans ?_ (Below.mono hb ?_)) | (with_reducible refine Below.trans ?_ (Below.mono hb0 ?_)) | (with_reducible refine Below.trans ?_ (Below.mono hb1 ?_)) | (with_reducible refine Below.trans ?_ (Below.mono hb2 ?_)) | (with_reducible refine Below.trans ?_ (Below.mono hb3 ?_)) | (with_reducible refine Below.trans ?_ (Below.mono hb4 ?_)) | (with_reducible refine Below.trans ?_ (Below.mono hb5 ?_)) | (with_reducible refine Below.trans ?_ (Below.mono hb6 ?_)) | (with_reducible refine Below.trans ?_ (Below.mono hb7 ?_)) | (with_reducible refine Below.trans ?_ (Below.mono hb8 ?_)) | (with_reducible refine Below.trans ?_ (Below.mono hb9 ?_)) | (with_reducible refine Below.trans ?_ (Below.mono hb10 ?_)) | (with_reducible refine Below.trans ?_ (Below.mono hb11 ?_)) | (with_reducible refine Below.trans ?_ (Below.mono hb12 ?_)) | (with_reducible refine Below.trans ?_ (Below.mono hb13 ?_)) | (with_reducible refine Below.trans ?_ (Below.mono hb14 ?_)) | (with_reducible refine Below.trans ?_ (Below.mono hb15 ?_)) | omega | (simp; done) | (simp; omega)))
    clear hc
    by_cases hq : keyB2 (x1, x2, x3) = (k1, k2)
    · have HL := Lib.hid (lvO_mem (hf.out.trans (by rw [Hdr.out, List.find?_cons, decide_eq_true hq])))
      unfold keyB2 at hq
      simp only [Prod.mk.injEq] at hq
      obtain ⟨rfl, rfl⟩ := hq
      go_wp2_with fail
      go_ret
      exact ⟨by rw [HL.out] <;> rfl, below_next hb0 hba⟩
    · have HO := Lib.hid (hf.out.trans (show (bs.drop k).find? (fun x => decide (keyB2 x = (k1, k2))) = (bs.drop (k + 1)).find? (fun x => decide (keyB2 x = (k1, k2))) by rw [Hdr.out, List.find?_cons, decide_eq_false hq]))
      unfold keyB2 at hq
      simp only [Prod.mk.injEq] at hq
      by_cases h1 : x1 = k1
      · have h2 : ¬ x2 = k2 := fun h => hq ⟨h1, h⟩
        have h2' : (x2.toList == k2.toList) = false := by rw [beq_eq_false_iff_ne]; exact fun e => h2 (toList_inj.1 e)
        subst h1
        clear hq h2
        go_wp2_with fail
        rw [← Ha.out]
        go_roundg (bs.length - (k + 1))
        case measure => have := hgk.out; omega
        case rel => exact ⟨k + 1, by go_num, by omega, rfl, HO.out, hba⟩
      · have h2' : (x1.toList == k1.toList) = false := by rw [beq_eq_false_iff_ne]; exact fun e => h1 (toList_inj.1 e)
        clear hq h1
        go_wp2_with fail
        rw [← Ha.out]
        go_roundg (bs.length - (k + 1))
        case measure => have := hgk.out; omega
        case rel => exact ⟨k + 1, by go_num, by omega, rfl, HO.out, hba⟩
  · have HL := Lib.hid (lvO_none (hf.out.trans (show (bs.drop k).find? (fun x => decide (keyB2 x = (k1, k2))) = none by rw [List.drop_of_length_le (by omega)]; rfl)))
    go_wp2_with fail
    go_ret
    exact ⟨by rw [HL.out] <;> rfl, below_next hb0 hb⟩
end Go.Proofs.YtpgofjjcmldhpaaGreatDoor

/-! What a pair is worth: Worth of the program, WorthOf of the reference. -/
namespace Go.Proofs.YtpgofjjcmldhpaaGreatDoor
open Go.RowKit
set_option linter.unusedVariables false
set_option linter.unusedSimpArgs false

/-- What an affinity of 1 is worth with a level. -/
def lvlW (n : Int) : Int := if n = 0 then 500000 else if n = 1 then 0 else if n = 2 then 600000 else if n = 3 then 800000 else 1000000
theorem lvlW_bd (n : Int) : 0 ≤ lvlW n ∧ lvlW n ≤ 1000000 := by unfold lvlW; repeat' split <;> omega
def worthN (p q lv : Int) : Int := (p * lvlW lv).tdiv q
theorem worthN_bd {p q lv : Int} (h1 : 0 ≤ p) (h2 : p ≤ 1000000000) (h3 : 1 ≤ q) : (0 ≤ p * lvlW lv ∧ p * lvlW lv ≤ 1000000000000000) ∧ 0 ≤ worthN p q lv ∧ worthN p q lv ≤ 1000000000000000 := by
  obtain ⟨l1, l2⟩ := lvlW_bd lv
  have a1 := Int.mul_nonneg h1 l1
  have a2 : p * lvlW lv ≤ 1000000000 * 1000000 := Int.mul_le_mul h2 l2 l1 (by omega)
  refine ⟨⟨a1, by omega⟩, ?_⟩
  unfold worthN
  rw [Int.tdiv_eq_ediv_of_nonneg a1]
  have := Int.ediv_nonneg a1 (by omega : 0 ≤ q)
  have := Int.ediv_le_self q a1
  omega
def worthE (p q lv : Int) : Int := if rightB p q = false then 3 else if q < p then 1 else if lv < 0 ∨ 4 < lv then 4 else 0
def worthV (p q lv : Int) : Int := if worthE p q lv = 0 then worthN p q lv else 0
theorem worth_right {p q lv : Int} (h : worthE p q lv = 0) : (1 ≤ q ∧ q ≤ 1000000000 ∧ 0 ≤ p ∧ p ≤ 1000000000) ∧ p ≤ q ∧ 0 ≤ lv ∧ lv ≤ 4 := by
  unfold worthE at h
  cases hr : rightB p q
  · rw [if_pos hr] at h; cases h
  · rw [if_neg (by simp [hr])] at h
    obtain ⟨a1, a2, a3, a4, _⟩ := (rightB_iff p q).1 hr
    by_cases h1 : q < p
    · rw [if_pos h1] at h; cases h
    · rw [if_neg h1] at h
      by_cases h2 : lv < 0 ∨ 4 < lv
      · rw [if_pos h2] at h; cases h
      · exact ⟨⟨a1, a2, a3, a4⟩, by omega, by omega, by omega⟩

theorem run_five (a b c d e : Int) (w : World) : (Instr.index 191 (.agg #[.int .i64 a, .int .i64 b, .int .i64 c, .int .i64 d, .int .i64 e]) (.int .i64 0)).run Tryz.prog w = .ok (.int .i64 a) w ∧ (Instr.index 191 (.agg #[.int .i64 a, .int .i64 b, .int .i64 c, .int .i64 d, .int .i64 e]) (.int .i64 1)).run Tryz.prog w = .ok (.int .i64 b) w ∧ (Instr.index 191 (.agg #[.int .i64 a, .int .i64 b, .int .i64 c, .int .i64 d, .int .i64 e]) (.int .i64 2)).run Tryz.prog w = .ok (.int .i64 c) w ∧ (Instr.index 191 (.agg #[.int .i64 a, .int .i64 b, .int .i64 c, .int .i64 d, .int .i64 e]) (.int .i64 3)).run Tryz.prog w = .ok (.int .i64 d) w ∧ (Instr.index 191 (.agg #[.int .i64 a, .int .i64 b, .int .i64 c, .int .i64 d, .int .i64 e]) (.int .i64 4)).run Tryz.prog w = .ok (.int .i64 e) w :=
  ⟨by kernel_rfl, by kernel_rfl, by kernel_rfl, by kernel_rfl, by kernel_rfl⟩
theorem worthOfL_any (lv : Int) (w : World) (h1 : 0 ≤ lv) (h2 : lv ≤ 4) : Calls Tryz.prog 101 #[.int .i64 lv] w (fun e w' => e = .returned (.int .i64 (lvlW lv)) ∧ w = w') := by
  have hr := fun W => run_five 500000 0 600000 800000 1000000 W
  have r0 := fun W => (hr W).1
  have r1 := fun W => (hr W).2.1
  have r2 := fun W => (hr W).2.2.1
  have r3 := fun W => (hr W).2.2.2.1
  have r4 := fun W => (hr W).2.2.2.2
  clear hr
  rcases (show lv = 0 ∨ lv = 1 ∨ lv = 2 ∨ lv = 3 ∨ lv = 4 by omega) with rfl | rfl | rfl | rfl | rfl
  all_goals
    go_enter Tryz.func101, Tryz.ntmps101
    go_wp2_with fail
    go_ret
    exact ⟨rfl, rfl⟩
set_option maxRecDepth 100000 in
set_option maxHeartbeats 2000000 in
theorem worthP_any (p q lv : Int) (w : World) (hp0 : 0 ≤ p) (hp1 : p ≤ 1000000000) (hq : 1 ≤ q) (h1 : 0 ≤ lv) (h2 : lv ≤ 4) :
    Calls Tryz.prog 52 #[.agg #[.int .i64 p, .int .i64 q], .int .i64 lv] w (Gives (.int .i64 (worthN p q lv)) w) := by
  have HW := Lib.hid (fun W => worthOfL_any lv W h1 h2)
  obtain ⟨⟨b1, b2⟩, b3, b4⟩ := worthN_bd (q := q) (lv := lv) hp0 hp1 hq
  obtain ⟨dq, hdq⟩ : ∃ dq, worthN p q lv = dq := ⟨_, rfl⟩
  rw [hdq] at b3 b4 ⊢
  unfold worthN at hdq
  generalize lvlW lv = lw at *
  have hw1 : IntKind.i64.wrap (p * lw) = p * lw := IntWalk.i64_in _ (by omega)
  have hw2 : IntKind.i64.wrap dq = dq := IntWalk.i64_in _ (by omega)
  have hz0 : ¬ q = 0 := by omega
  have hz1 : (q == 0) = false := by simpa using hz0
  have hB := Box.new w 37 #[.int .i64 p, .int .i64 q]
  have hb : Below w.heap.size w (w.alloc (.cells #[.int .i64 p, .int .i64 q] 37)) := (Below.refl _ _).alloc (Nat.le_refl _) _
  go_enter Tryz.func52, Tryz.ntmps52
  go_upto_region 1 with (fail)
  generalize w.alloc (.cells #[.int .i64 p, .int .i64 q] 37) = W1 at *
  generalize hF : w.heap.size = F at *
  have hB_l := hB.lt; have hB_0 := hB.cell 0; have hB_1 := hB.cell 1; simp at hB_0 hB_1
  refine wp_region_held_drew (S := (fun wx => wx.cell? ⟨F, 0, none⟩ = some (.int .i64 p) ∧ wx.cell? ⟨F, 1, none⟩ = some (.int .i64 q) ∧ Below W1.heap.size W1 wx)) (by kernel_rfl) ?hS (fun hHeld => ?_)
  case hS => exact ⟨hB_0, hB_1, (Below.refl _ _).drew⟩
  refine rtake (i := 0) (d := (some 5)) (v := ?_) rfl (by kernel_rfl) (by kernel_rfl) (by kernel_rfl) (by kernel_rfl) (fun _ _ _ h => h) (by kernel_rfl) (by assumption) ?_ ?_
  rotate_left 1
  · (intro wI hSI; (try dsimp only at hSI); go_simp; (try with_reducible rfl))
  simp only [Act.put, List.setIfInBounds_toArray, List.set_cons_zero, List.set_cons_succ]
  refine rtake (i := 1) (d := (some 6)) (v := ?_) rfl (by kernel_rfl) (by kernel_rfl) (by kernel_rfl) (by kernel_rfl) (fun _ _ _ h => h) (by kernel_rfl) (by assumption) ?_ ?_
  rotate_left 1
  · (intro wI hSI; (try dsimp only at hSI); go_simp; (try with_reducible rfl))
  simp only [Act.put, List.setIfInBounds_toArray, List.set_cons_zero, List.set_cons_succ]
  refine rtake (i := 2) (d := (some 7)) (v := ?_) rfl (by kernel_rfl) (by kernel_rfl) (by kernel_rfl) (by kernel_rfl) (fun _ _ _ h => h) (by kernel_rfl) (by assumption) ?_ ?_
  rotate_left 1
  · (intro wI hSI; (try dsimp only at hSI); go_simp; (try with_reducible rfl))
  simp only [Act.put, List.setIfInBounds_toArray, List.set_cons_zero, List.set_cons_succ]
  refine rtake (i := 5) (d := (some 10)) (v := ?_) rfl (by kernel_rfl) (by kernel_rfl) (by kernel_rfl) (by kernel_rfl) (fun _ _ _ h => h) (by kernel_rfl) (by assumption) ?_ ?_
  rotate_left 1
  · (intro wI hSI; (try dsimp only at hSI); go_simp; (try with_reducible rfl))
  simp only [Act.put, List.setIfInBounds_toArray, List.set_cons_zero, List.set_cons_succ]
  refine rtake (i := 6) (d := (some 11)) (v := ?_) rfl (by kernel_rfl) (by kernel_rfl) (by kernel_rfl) (by kernel_rfl) (fun _ _ _ h => h) (by kernel_rfl) (by assumption) ?_ ?_
  rotate_left 1
  · (intro wI hSI; (try dsimp only at hSI); go_simp; (try with_reducible rfl))
  simp only [Act.put, List.setIfInBounds_toArray, List.set_cons_zero, List.set_cons_succ]
  refine rcall (i := 3) (d := (some 8)) (by kernel_rfl) rfl (by kernel_rfl) (fun K hK => ?_)
  go_simp
  go_at_call 101; refine (HW.out _).mono ?_; rintro e wa ⟨rfl, rfl⟩
  refine hK.out _ _ ?hS (fun hHeld => ?_)
  case hS => exact hHeld
  clear hK K
  simp only [Act.put, List.setIfInBounds_toArray, List.set_cons_zero, List.set_cons_succ]
  refine rtake (i := 4) (d := (some 9)) (v := ?_) rfl (by kernel_rfl) (by kernel_rfl) (by kernel_rfl) (by kernel_rfl) (fun _ _ _ h => h) (by kernel_rfl) (by assumption) ?_ ?_
  rotate_left 1
  · (intro wI hSI; (try dsimp only at hSI); go_simp; (try with_reducible rfl))
  simp only [Act.put, List.setIfInBounds_toArray, List.set_cons_zero, List.set_cons_succ]
  refine rtake (i := 7) (d := (some 12)) (v := ?_) rfl (by kernel_rfl) (by kernel_rfl) (by kernel_rfl) (by kernel_rfl) (fun _ _ _ h => h) (by kernel_rfl) (by assumption) ?_ ?_
  rotate_left 1
  · (intro wI hSI; (try dsimp only at hSI); go_simp; (try with_reducible rfl))
  simp only [Act.put, List.setIfInBounds_toArray, List.set_cons_zero, List.set_cons_succ]
  refine rtake (i := 8) (d := (some 4)) (v := ?_) rfl (by kernel_rfl) (by kernel_rfl) (by kernel_rfl) (by kernel_rfl) (fun _ _ _ h => h) (by kernel_rfl) (by assumption) ?_ ?_
  rotate_left 1
  · (intro wI hSI; (try dsimp only at hSI); go_simp; (try with_reducible rfl))
  simp only [Act.put, List.setIfInBounds_toArray, List.set_cons_zero, List.set_cons_succ]
  refine wpAnyH_done (by kernel_rfl) ?_ _
  go_wp2_with fail
  go_ret
  exact ⟨rfl, by rw [hF]; exact hb.trans (hHeld.2.2.mono (by rw [← hF]; have := hb.size; omega))⟩
set_option maxRecDepth 100000 in
set_option maxHeartbeats 2000000 in
theorem worthX_any (p q lv : Int) (w : World) :
    Calls Tryz.prog 13 #[.agg #[.int .i64 p, .int .i64 q], .int .i64 lv] w (Gives (.tuple #[.int .i64 (worthV p q lv), .int .i64 (worthE p q lv)]) w) := by
  cases hr : rightB p q
  · have hE : worthE p q lv = 3 := by unfold worthE; rw [if_pos hr]
    have hV : worthV p q lv = 0 := by unfold worthV; rw [hE]; rfl
    rw [hE, hV]
    have Hr := Lib.hid hr
    clear hr hE hV
    go_enter Tryz.func13, Tryz.ntmps13
    go_wp2_with fail
    refine (fractionFault_bad p q _ Hr.out).mono ?_
    rintro e w1 ⟨rfl, hb⟩
    go_wp2_with fail
    exact bodyPost_ret (v := .tuple #[.int .i64 0, .int .i64 3]) (by simp only [results, Tryz.results13]; go_simp) rfl ⟨rfl, by have := hb.size; simp at this; (repeat' (first | exact Below.refl _ _ | assumption | refine Below.setCell ?_ ?_ _ | refine below_drewN ?_ _ | refine Below.drew ?_ | refine Below.alloc ?_ ?_ _ | (with_reducible refine Below.trans ?_ (Below.mono hb ?_)) | (with_reducible refine Below.trans ?_ (Below.mono hb0 ?_)) | (with_reducible refine Below.trans ?_ (Below.mono hb1 ?_)) | (with_reducible refine Below.trans ?_ (Below.mono hb2 ?_)) | (with_reducible refine Below.trans ?_ (Below.mono hb3 ?_)) | (with_reducible refine Below.trans ?_ (Below.mono hb4 ?_)) | (with_reducible refine Below.trans ?_ (Below.mono hb5 ?_)) | (with_reducible refine Below.trans ?_ (Below.mono hb6 ?_)) | (with_reducible refine Below.trans ?_ (Below.mono hb7 ?_)) | (with_reducible refine Below.trans ?_ (Below.mono hb8 ?_)) | (with_reducible refine Below.trans ?_ (Below.mono hb9 ?_)) | (with_reducible refine Below.trans ?_ (Below.mono hb10 ?_)) | (with_reducible refine Below.trans ?_ (Below.mono hb11 ?_)) | (with_reducible refine Below.trans ?_ (Below.mono hb12 ?_)) | (with_reducible refine Below.trans ?_ (Below.mono hb13 ?_)) | (with_reducible refine Below.trans ?_ (Below.mono hb14 ?_)) | (with_reducible refine Below.trans ?_ (Below.mono hb15 ?_)) | omega | (simp; done) | (simp; omega)))⟩
  · obtain ⟨a1, a2, a3, a4, _⟩ := (rightB_iff p q).1 hr
    have Hr := Lib.hid hr
    by_cases h1 : q < p
    · have hE : worthE p q lv = 1 := by unfold worthE; rw [if_neg (by simp [hr]), if_pos h1]
      have hV : worthV p q lv = 0 := by unfold worthV; rw [hE]; rfl
      rw [hE, hV]
      clear hr hE hV
      go_enter Tryz.func13, Tryz.ntmps13
      go_wp2_with fail
      refine (fractionFault_ok p q _ Hr.out).mono ?_
      rintro e w1 ⟨rfl, hb⟩
      obtain ⟨hc, hf⟩ := bcell hb
      go_wp2_with fail
      exact bodyPost_ret (v := .tuple #[.int .i64 0, .int .i64 1]) (by simp only [results, Tryz.results13]; go_simp) rfl ⟨rfl, by have := hb.size; simp at this; (repeat' (first | exact Below.refl _ _ | assumption | refine Below.setCell ?_ ?_ _ | refine below_drewN ?_ _ | refine Below.drew ?_ | refine Below.alloc ?_ ?_ _ | (with_reducible refine Below.trans ?_ (Below.mono hb ?_)) | (with_reducible refine Below.trans ?_ (Below.mono hb0 ?_)) | (with_reducible refine Below.trans ?_ (Below.mono hb1 ?_)) | (with_reducible refine Below.trans ?_ (Below.mono hb2 ?_)) | (with_reducible refine Below.trans ?_ (Below.mono hb3 ?_)) | (with_reducible refine Below.trans ?_ (Below.mono hb4 ?_)) | (with_reducible refine Below.trans ?_ (Below.mono hb5 ?_)) | (with_reducible refine Below.trans ?_ (Below.mono hb6 ?_)) | (with_reducible refine Below.trans ?_ (Below.mono hb7 ?_)) | (with_reducible refine Below.trans ?_ (Below.mono hb8 ?_)) | (with_reducible refine Below.trans ?_ (Below.mono hb9 ?_)) | (with_reducible refine Below.trans ?_ (Below.mono hb10 ?_)) | (with_reducible refine Below.trans ?_ (Below.mono hb11 ?_)) | (with_reducible refine Below.trans ?_ (Below.mono hb12 ?_)) | (with_reducible refine Below.trans ?_ (Below.mono hb13 ?_)) | (with_reducible refine Below.trans ?_ (Below.mono hb14 ?_)) | (with_reducible refine Below.trans ?_ (Below.mono hb15 ?_)) | omega | (simp; done) | (simp; omega)))⟩
    · by_cases h2 : lv < 0 ∨ 4 < lv
      · have hE : worthE p q lv = 4 := by unfold worthE; rw [if_neg (by simp [hr]), if_neg h1, if_pos h2]
        have hV : worthV p q lv = 0 := by unfold worthV; rw [hE]; rfl
        rw [hE, hV]
        clear hr hE hV
        go_enter Tryz.func13, Tryz.ntmps13
        go_wp2_with fail
        refine (fractionFault_ok p q _ Hr.out).mono ?_
        rintro e w1 ⟨rfl, hb⟩
        obtain ⟨hc, hf⟩ := bcell hb
        go_wp2_with fail
        refine (outside_yes lv 0 4 _ h2).mono ?_
        rintro e w2 ⟨rfl, rfl⟩
        go_wp2_with fail
        exact bodyPost_ret (v := .tuple #[.int .i64 0, .int .i64 4]) (by simp only [results, Tryz.results13]; go_simp) rfl ⟨rfl, by have := hb.size; simp at this; (repeat' (first | exact Below.refl _ _ | assumption | refine Below.setCell ?_ ?_ _ | refine below_drewN ?_ _ | refine Below.drew ?_ | refine Below.alloc ?_ ?_ _ | (with_reducible refine Below.trans ?_ (Below.mono hb ?_)) | (with_reducible refine Below.trans ?_ (Below.mono hb0 ?_)) | (with_reducible refine Below.trans ?_ (Below.mono hb1 ?_)) | (with_reducible refine Below.trans ?_ (Below.mono hb2 ?_)) | (with_reducible refine Below.trans ?_ (Below.mono hb3 ?_)) | (with_reducible refine Below.trans ?_ (Below.mono hb4 ?_)) | (with_reducible refine Below.trans ?_ (Below.mono hb5 ?_)) | (with_reducible refine Below.trans ?_ (Below.mono hb6 ?_)) | (with_reducible refine Below.trans ?_ (Below.mono hb7 ?_)) | (with_reducible refine Below.trans ?_ (Below.mono hb8 ?_)) | (with_reducible refine Below.trans ?_ (Below.mono hb9 ?_)) | (with_reducible refine Below.trans ?_ (Below.mono hb10 ?_)) | (with_reducible refine Below.trans ?_ (Below.mono hb11 ?_)) | (with_reducible refine Below.trans ?_ (Below.mono hb12 ?_)) | (with_reducible refine Below.trans ?_ (Below.mono hb13 ?_)) | (with_reducible refine Below.trans ?_ (Below.mono hb14 ?_)) | (with_reducible refine Below.trans ?_ (Below.mono hb15 ?_)) | omega | (simp; done) | (simp; omega)))⟩
      · have hE : worthE p q lv = 0 := by unfold worthE; rw [if_neg (by simp [hr]), if_neg h1, if_neg h2]
        have hV : worthV p q lv = worthN p q lv := by unfold worthV; rw [if_pos hE]
        rw [hE, hV]
        have HP := Lib.hid (fun W => worthP_any p q lv W a3 a4 a1 (by omega) (by omega))
        generalize worthN p q lv = wn at *
        clear hr hE hV
        go_enter Tryz.func13, Tryz.ntmps13
        go_wp2_with fail
        refine (fractionFault_ok p q _ Hr.out).mono ?_
        rintro e w1 ⟨rfl, hb⟩
        obtain ⟨hc, hf⟩ := bcell hb
        go_wp2_with fail
        refine (outside_no lv 0 4 _ (by omega) (by omega)).mono ?_
        rintro e w2 ⟨rfl, rfl⟩
        go_wp2_with fail
        refine (HP.out _).mono ?_
        rintro e w3 ⟨rfl, hb3⟩
        go_wp2_with fail
        refine bodyPost_ret (v := .tuple #[.int .i64 wn, .int .i64 0]) (by simp only [results, Tryz.results13]; go_simp) rfl ⟨rfl, ?_⟩
        refine below_next ?_ hb3
        have := hb.size
        simp at this
        (repeat' (first | exact Below.refl _ _ | assumption | refine Below.setCell ?_ ?_ _ | refine below_drewN ?_ _ | refine Below.drew ?_ | refine Below.alloc ?_ ?_ _ | (with_reducible refine Below.trans ?_ (Below.mono hb ?_)) | (with_reducible refine Below.trans ?_ (Below.mono hb0 ?_)) | (with_reducible refine Below.trans ?_ (Below.mono hb1 ?_)) | (with_reducible refine Below.trans ?_ (Below.mono hb2 ?_)) | (with_reducible refine Below.trans ?_ (Below.mono hb3 ?_)) | (with_reducible refine Below.trans ?_ (Below.mono hb4 ?_)) | (with_reducible refine Below.trans ?_ (Below.mono hb5 ?_)) | (with_reducible refine Below.trans ?_ (Below.mono hb6 ?_)) | (with_reducible refine Below.trans ?_ (Below.mono hb7 ?_)) | (with_reducible refine Below.trans ?_ (Below.mono hb8 ?_)) | (with_reducible refine Below.trans ?_ (Below.mono hb9 ?_)) | (with_reducible refine Below.trans ?_ (Below.mono hb10 ?_)) | (with_reducible refine Below.trans ?_ (Below.mono hb11 ?_)) | (with_reducible refine Below.trans ?_ (Below.mono hb12 ?_)) | (with_reducible refine Below.trans ?_ (Below.mono hb13 ?_)) | (with_reducible refine Below.trans ?_ (Below.mono hb14 ?_)) | (with_reducible refine Below.trans ?_ (Below.mono hb15 ?_)) | omega | (simp; done) | (simp; omega)))
set_option maxRecDepth 100000 in
set_option maxHeartbeats 2000000 in
theorem worthOf_any (p q lv : Int) (w : World) :
    Calls Tryz.prog 14 #[.agg #[.int .i64 p, .int .i64 q], .int .i64 lv] w (Gives (.tuple #[.int .i64 (worthV p q lv), .int .i64 (worthE p q lv)]) w) := by
  have HR := Lib.hid (fun W => fractionRight_any p q W)
  cases hr : rightB p q
  · have hE : worthE p q lv = 3 := by unfold worthE; rw [if_pos hr]
    have hV : worthV p q lv = 0 := by unfold worthV; rw [hE]; rfl
    rw [hE, hV]
    rw [hr] at HR
    clear hr hE hV
    go_enter Tryz.func14, Tryz.ntmps14
    go_wp2_with fail
    refine (HR.out _).mono ?_
    rintro e w1 ⟨rfl, hb⟩
    go_wp2_with fail
    exact bodyPost_ret (v := .tuple #[.int .i64 0, .int .i64 3]) (by simp only [results, Tryz.results14]; go_simp) rfl ⟨rfl, by have := hb.size; simp at this; (repeat' (first | exact Below.refl _ _ | assumption | refine Below.setCell ?_ ?_ _ | refine below_drewN ?_ _ | refine Below.drew ?_ | refine Below.alloc ?_ ?_ _ | (with_reducible refine Below.trans ?_ (Below.mono hb ?_)) | (with_reducible refine Below.trans ?_ (Below.mono hb0 ?_)) | (with_reducible refine Below.trans ?_ (Below.mono hb1 ?_)) | (with_reducible refine Below.trans ?_ (Below.mono hb2 ?_)) | (with_reducible refine Below.trans ?_ (Below.mono hb3 ?_)) | (with_reducible refine Below.trans ?_ (Below.mono hb4 ?_)) | (with_reducible refine Below.trans ?_ (Below.mono hb5 ?_)) | (with_reducible refine Below.trans ?_ (Below.mono hb6 ?_)) | (with_reducible refine Below.trans ?_ (Below.mono hb7 ?_)) | (with_reducible refine Below.trans ?_ (Below.mono hb8 ?_)) | (with_reducible refine Below.trans ?_ (Below.mono hb9 ?_)) | (with_reducible refine Below.trans ?_ (Below.mono hb10 ?_)) | (with_reducible refine Below.trans ?_ (Below.mono hb11 ?_)) | (with_reducible refine Below.trans ?_ (Below.mono hb12 ?_)) | (with_reducible refine Below.trans ?_ (Below.mono hb13 ?_)) | (with_reducible refine Below.trans ?_ (Below.mono hb14 ?_)) | (with_reducible refine Below.trans ?_ (Below.mono hb15 ?_)) | omega | (simp; done) | (simp; omega)))⟩
  · obtain ⟨a1, a2, a3, a4, _⟩ := (rightB_iff p q).1 hr
    rw [hr] at HR
    by_cases h1 : q < p
    · have hE : worthE p q lv = 1 := by unfold worthE; rw [if_neg (by simp [hr]), if_pos h1]
      have hV : worthV p q lv = 0 := by unfold worthV; rw [hE]; rfl
      rw [hE, hV]
      clear hr hE hV
      go_enter Tryz.func14, Tryz.ntmps14
      go_wp2_with fail
      refine (HR.out _).mono ?_
      rintro e w1 ⟨rfl, hb⟩
      obtain ⟨hc, hf⟩ := bcell hb
      go_wp2_with fail
      exact bodyPost_ret (v := .tuple #[.int .i64 0, .int .i64 1]) (by simp only [results, Tryz.results14]; go_simp) rfl ⟨rfl, by have := hb.size; simp at this; (repeat' (first | exact Below.refl _ _ | assumption | refine Below.setCell ?_ ?_ _ | refine below_drewN ?_ _ | refine Below.drew ?_ | refine Below.alloc ?_ ?_ _ | (with_reducible refine Below.trans ?_ (Below.mono hb ?_)) | (with_reducible refine Below.trans ?_ (Below.mono hb0 ?_)) | (with_reducible refine Below.trans ?_ (Below.mono hb1 ?_)) | (with_reducible refine Below.trans ?_ (Below.mono hb2 ?_)) | (with_reducible refine Below.trans ?_ (Below.mono hb3 ?_)) | (with_reducible refine Below.trans ?_ (Below.mono hb4 ?_)) | (with_reducible refine Below.trans ?_ (Below.mono hb5 ?_)) | (with_reducible refine Below.trans ?_ (Below.mono hb6 ?_)) | (with_reducible refine Below.trans ?_ (Below.mono hb7 ?_)) | (with_reducible refine Below.trans ?_ (Below.mono hb8 ?_)) | (with_reducible refine Below.trans ?_ (Below.mono hb9 ?_)) | (with_reducible refine Below.trans ?_ (Below.mono hb10 ?_)) | (with_reducible refine Below.trans ?_ (Below.mono hb11 ?_)) | (with_reducible refine Below.trans ?_ (Below.mono hb12 ?_)) | (with_reducible refine Below.trans ?_ (Below.mono hb13 ?_)) | (with_reducible refine Below.trans ?_ (Below.mono hb14 ?_)) | (with_reducible refine Below.trans ?_ (Below.mono hb15 ?_)) | omega | (simp; done) | (simp; omega)))⟩
    · by_cases h2 : lv < 0 ∨ 4 < lv
      · have hE : worthE p q lv = 4 := by unfold worthE; rw [if_neg (by simp [hr]), if_neg h1, if_pos h2]
        have hV : worthV p q lv = 0 := by unfold worthV; rw [hE]; rfl
        rw [hE, hV]
        clear hr hE hV
        rcases h2 with h2 | h2
        · go_enter Tryz.func14, Tryz.ntmps14
          go_wp2_with fail
          refine (HR.out _).mono ?_
          rintro e w1 ⟨rfl, hb⟩
          obtain ⟨hc, hf⟩ := bcell hb
          have hd : decide (lv < 0) = true := decide_eq_true h2
          go_wp2_with fail
          exact bodyPost_ret (v := .tuple #[.int .i64 0, .int .i64 4]) (by simp only [results, Tryz.results14]; go_simp) rfl ⟨rfl, by have := hb.size; simp at this; (repeat' (first | exact Below.refl _ _ | assumption | refine Below.setCell ?_ ?_ _ | refine below_drewN ?_ _ | refine Below.drew ?_ | refine Below.alloc ?_ ?_ _ | (with_reducible refine Below.trans ?_ (Below.mono hb ?_)) | (with_reducible refine Below.trans ?_ (Below.mono hb0 ?_)) | (with_reducible refine Below.trans ?_ (Below.mono hb1 ?_)) | (with_reducible refine Below.trans ?_ (Below.mono hb2 ?_)) | (with_reducible refine Below.trans ?_ (Below.mono hb3 ?_)) | (with_reducible refine Below.trans ?_ (Below.mono hb4 ?_)) | (with_reducible refine Below.trans ?_ (Below.mono hb5 ?_)) | (with_reducible refine Below.trans ?_ (Below.mono hb6 ?_)) | (with_reducible refine Below.trans ?_ (Below.mono hb7 ?_)) | (with_reducible refine Below.trans ?_ (Below.mono hb8 ?_)) | (with_reducible refine Below.trans ?_ (Below.mono hb9 ?_)) | (with_reducible refine Below.trans ?_ (Below.mono hb10 ?_)) | (with_reducible refine Below.trans ?_ (Below.mono hb11 ?_)) | (with_reducible refine Below.trans ?_ (Below.mono hb12 ?_)) | (with_reducible refine Below.trans ?_ (Below.mono hb13 ?_)) | (with_reducible refine Below.trans ?_ (Below.mono hb14 ?_)) | (with_reducible refine Below.trans ?_ (Below.mono hb15 ?_)) | omega | (simp; done) | (simp; omega)))⟩
        · go_enter Tryz.func14, Tryz.ntmps14
          go_wp2_with fail
          refine (HR.out _).mono ?_
          rintro e w1 ⟨rfl, hb⟩
          obtain ⟨hc, hf⟩ := bcell hb
          have hd : decide (lv < 0) = false := decide_eq_false (by omega)
          have hd2 : decide (4 < lv) = true := decide_eq_true h2
          go_wp2_with fail
          exact bodyPost_ret (v := .tuple #[.int .i64 0, .int .i64 4]) (by simp only [results, Tryz.results14]; go_simp) rfl ⟨rfl, by have := hb.size; simp at this; (repeat' (first | exact Below.refl _ _ | assumption | refine Below.setCell ?_ ?_ _ | refine below_drewN ?_ _ | refine Below.drew ?_ | refine Below.alloc ?_ ?_ _ | (with_reducible refine Below.trans ?_ (Below.mono hb ?_)) | (with_reducible refine Below.trans ?_ (Below.mono hb0 ?_)) | (with_reducible refine Below.trans ?_ (Below.mono hb1 ?_)) | (with_reducible refine Below.trans ?_ (Below.mono hb2 ?_)) | (with_reducible refine Below.trans ?_ (Below.mono hb3 ?_)) | (with_reducible refine Below.trans ?_ (Below.mono hb4 ?_)) | (with_reducible refine Below.trans ?_ (Below.mono hb5 ?_)) | (with_reducible refine Below.trans ?_ (Below.mono hb6 ?_)) | (with_reducible refine Below.trans ?_ (Below.mono hb7 ?_)) | (with_reducible refine Below.trans ?_ (Below.mono hb8 ?_)) | (with_reducible refine Below.trans ?_ (Below.mono hb9 ?_)) | (with_reducible refine Below.trans ?_ (Below.mono hb10 ?_)) | (with_reducible refine Below.trans ?_ (Below.mono hb11 ?_)) | (with_reducible refine Below.trans ?_ (Below.mono hb12 ?_)) | (with_reducible refine Below.trans ?_ (Below.mono hb13 ?_)) | (with_reducible refine Below.trans ?_ (Below.mono hb14 ?_)) | (with_reducible refine Below.trans ?_ (Below.mono hb15 ?_)) | omega | (simp; done) | (simp; omega)))⟩
      · have hE : worthE p q lv = 0 := by unfold worthE; rw [if_neg (by simp [hr]), if_neg h1, if_neg h2]
        have hV : worthV p q lv = worthN p q lv := by unfold worthV; rw [if_pos hE]
        rw [hE, hV]
        obtain ⟨⟨b1, b2⟩, b3, b4⟩ := worthN_bd (q := q) (lv := lv) a3 a4 a1
        have hl1 : 0 ≤ lv := by omega
        have hl2 : lv ≤ 4 := by omega
        have hd : decide (lv < 0) = false := decide_eq_false (by omega)
        have hd2 : decide (4 < lv) = false := decide_eq_false (by omega)
        obtain ⟨dq, hdq⟩ : ∃ dq, worthN p q lv = dq := ⟨_, rfl⟩
        rw [hdq] at b3 b4 ⊢
        unfold worthN at hdq
        rw [Int.mul_comm] at hdq b1 b2
        have hz0 : ¬ q = 0 := by omega
        have hz1 : (q == 0) = false := by simpa using hz0
        have hw2 : IntKind.i64.wrap dq = dq := IntWalk.i64_in _ (by omega)
        clear hr hE hV h2
        have hp0 : 0 ≤ p := a3
        have hp1 : p ≤ 1000000000 := a4
        rcases (show lv = 0 ∨ lv = 1 ∨ lv = 2 ∨ lv = 3 ∨ lv = 4 by omega) with rfl | rfl | rfl | rfl | rfl
        all_goals simp only [lvlW, if_true, if_false, Int.reduceEq, Int.zero_mul, Int.zero_tdiv] at hdq b1 b2
        · have hw1 : IntKind.i64.wrap (500000 * p) = 500000 * p := IntWalk.i64_in _ (by omega)
          go_enter Tryz.func14, Tryz.ntmps14
          go_wp2_with fail
          refine (HR.out _).mono ?_
          rintro e w1 ⟨rfl, hb⟩
          have hB1 := (Box.new w 37 #[.int .i64 p, .int .i64 q]).below hb
          have hB2 := hB1.alloc (.cells #[.int .i64 500000, .int .i64 0, .int .i64 600000, .int .i64 800000, .int .i64 1000000] 3)
          have hzb := hb.size
          simp at hzb
          have hB1_l := hB1.lt; have hB1_0 := hB1.cell 0; have hB1_1 := hB1.cell 1; simp at hB1_0 hB1_1
          have hB2_l := hB2.lt; have hB2_0 := hB2.cell 0; have hB2_1 := hB2.cell 1; simp at hB2_0 hB2_1
          go_wp2_with fail
          go_region
          all_goals
            go_wp2_with fail
            exact bodyPost_ret (v := .tuple #[.int .i64 _, .int .i64 0]) (by simp only [results, Tryz.results14]; go_simp) rfl ⟨rfl, by (repeat' (first | exact Below.refl _ _ | assumption | refine Below.setCell ?_ ?_ _ | refine below_drewN ?_ _ | refine Below.drew ?_ | refine Below.alloc ?_ ?_ _ | (with_reducible refine Below.trans ?_ (Below.mono hb ?_)) | (with_reducible refine Below.trans ?_ (Below.mono hb0 ?_)) | (with_reducible refine Below.trans ?_ (Below.mono hb1 ?_)) | (with_reducible refine Below.trans ?_ (Below.mono hb2 ?_)) | (with_reducible refine Below.trans ?_ (Below.mono hb3 ?_)) | (with_reducible refine Below.trans ?_ (Below.mono hb4 ?_)) | (with_reducible refine Below.trans ?_ (Below.mono hb5 ?_)) | (with_reducible refine Below.trans ?_ (Below.mono hb6 ?_)) | (with_reducible refine Below.trans ?_ (Below.mono hb7 ?_)) | (with_reducible refine Below.trans ?_ (Below.mono hb8 ?_)) | (with_reducible refine Below.trans ?_ (Below.mono hb9 ?_)) | (with_reducible refine Below.trans ?_ (Below.mono hb10 ?_)) | (with_reducible refine Below.trans ?_ (Below.mono hb11 ?_)) | (with_reducible refine Below.trans ?_ (Below.mono hb12 ?_)) | (with_reducible refine Below.trans ?_ (Below.mono hb13 ?_)) | (with_reducible refine Below.trans ?_ (Below.mono hb14 ?_)) | (with_reducible refine Below.trans ?_ (Below.mono hb15 ?_)) | omega | (simp; done) | (simp; omega)))⟩
        · subst hdq
          go_enter Tryz.func14, Tryz.ntmps14
          go_wp2_with fail
          refine (HR.out _).mono ?_
          rintro e w1 ⟨rfl, hb⟩
          have hB1 := (Box.new w 37 #[.int .i64 p, .int .i64 q]).below hb
          have hB2 := hB1.alloc (.cells #[.int .i64 500000, .int .i64 0, .int .i64 600000, .int .i64 800000, .int .i64 1000000] 3)
          have hzb := hb.size
          simp at hzb
          have hB1_l := hB1.lt; have hB1_0 := hB1.cell 0; have hB1_1 := hB1.cell 1; simp at hB1_0 hB1_1
          have hB2_l := hB2.lt; have hB2_0 := hB2.cell 0; have hB2_1 := hB2.cell 1; simp at hB2_0 hB2_1
          go_wp2_with fail
          go_region
          all_goals
            go_wp2_with fail
            exact bodyPost_ret (v := .tuple #[.int .i64 _, .int .i64 0]) (by simp only [results, Tryz.results14]; go_simp) rfl ⟨rfl, by (repeat' (first | exact Below.refl _ _ | assumption | refine Below.setCell ?_ ?_ _ | refine below_drewN ?_ _ | refine Below.drew ?_ | refine Below.alloc ?_ ?_ _ | (with_reducible refine Below.trans ?_ (Below.mono hb ?_)) | (with_reducible refine Below.trans ?_ (Below.mono hb0 ?_)) | (with_reducible refine Below.trans ?_ (Below.mono hb1 ?_)) | (with_reducible refine Below.trans ?_ (Below.mono hb2 ?_)) | (with_reducible refine Below.trans ?_ (Below.mono hb3 ?_)) | (with_reducible refine Below.trans ?_ (Below.mono hb4 ?_)) | (with_reducible refine Below.trans ?_ (Below.mono hb5 ?_)) | (with_reducible refine Below.trans ?_ (Below.mono hb6 ?_)) | (with_reducible refine Below.trans ?_ (Below.mono hb7 ?_)) | (with_reducible refine Below.trans ?_ (Below.mono hb8 ?_)) | (with_reducible refine Below.trans ?_ (Below.mono hb9 ?_)) | (with_reducible refine Below.trans ?_ (Below.mono hb10 ?_)) | (with_reducible refine Below.trans ?_ (Below.mono hb11 ?_)) | (with_reducible refine Below.trans ?_ (Below.mono hb12 ?_)) | (with_reducible refine Below.trans ?_ (Below.mono hb13 ?_)) | (with_reducible refine Below.trans ?_ (Below.mono hb14 ?_)) | (with_reducible refine Below.trans ?_ (Below.mono hb15 ?_)) | omega | (simp; done) | (simp; omega)))⟩
        · have hw1 : IntKind.i64.wrap (600000 * p) = 600000 * p := IntWalk.i64_in _ (by omega)
          go_enter Tryz.func14, Tryz.ntmps14
          go_wp2_with fail
          refine (HR.out _).mono ?_
          rintro e w1 ⟨rfl, hb⟩
          have hB1 := (Box.new w 37 #[.int .i64 p, .int .i64 q]).below hb
          have hB2 := hB1.alloc (.cells #[.int .i64 500000, .int .i64 0, .int .i64 600000, .int .i64 800000, .int .i64 1000000] 3)
          have hzb := hb.size
          simp at hzb
          have hB1_l := hB1.lt; have hB1_0 := hB1.cell 0; have hB1_1 := hB1.cell 1; simp at hB1_0 hB1_1
          have hB2_l := hB2.lt; have hB2_0 := hB2.cell 0; have hB2_1 := hB2.cell 1; simp at hB2_0 hB2_1
          go_wp2_with fail
          go_region
          all_goals
            go_wp2_with fail
            exact bodyPost_ret (v := .tuple #[.int .i64 _, .int .i64 0]) (by simp only [results, Tryz.results14]; go_simp) rfl ⟨rfl, by (repeat' (first | exact Below.refl _ _ | assumption | refine Below.setCell ?_ ?_ _ | refine below_drewN ?_ _ | refine Below.drew ?_ | refine Below.alloc ?_ ?_ _ | (with_reducible refine Below.trans ?_ (Below.mono hb ?_)) | (with_reducible refine Below.trans ?_ (Below.mono hb0 ?_)) | (with_reducible refine Below.trans ?_ (Below.mono hb1 ?_)) | (with_reducible refine Below.trans ?_ (Below.mono hb2 ?_)) | (with_reducible refine Below.trans ?_ (Below.mono hb3 ?_)) | (with_reducible refine Below.trans ?_ (Below.mono hb4 ?_)) | (with_reducible refine Below.trans ?_ (Below.mono hb5 ?_)) | (with_reducible refine Below.trans ?_ (Below.mono hb6 ?_)) | (with_reducible refine Below.trans ?_ (Below.mono hb7 ?_)) | (with_reducible refine Below.trans ?_ (Below.mono hb8 ?_)) | (with_reducible refine Below.trans ?_ (Below.mono hb9 ?_)) | (with_reducible refine Below.trans ?_ (Below.mono hb10 ?_)) | (with_reducible refine Below.trans ?_ (Below.mono hb11 ?_)) | (with_reducible refine Below.trans ?_ (Below.mono hb12 ?_)) | (with_reducible refine Below.trans ?_ (Below.mono hb13 ?_)) | (with_reducible refine Below.trans ?_ (Below.mono hb14 ?_)) | (with_reducible refine Below.trans ?_ (Below.mono hb15 ?_)) | omega | (simp; done) | (simp; omega)))⟩
        · have hw1 : IntKind.i64.wrap (800000 * p) = 800000 * p := IntWalk.i64_in _ (by omega)
          go_enter Tryz.func14, Tryz.ntmps14
          go_wp2_with fail
          refine (HR.out _).mono ?_
          rintro e w1 ⟨rfl, hb⟩
          have hB1 := (Box.new w 37 #[.int .i64 p, .int .i64 q]).below hb
          have hB2 := hB1.alloc (.cells #[.int .i64 500000, .int .i64 0, .int .i64 600000, .int .i64 800000, .int .i64 1000000] 3)
          have hzb := hb.size
          simp at hzb
          have hB1_l := hB1.lt; have hB1_0 := hB1.cell 0; have hB1_1 := hB1.cell 1; simp at hB1_0 hB1_1
          have hB2_l := hB2.lt; have hB2_0 := hB2.cell 0; have hB2_1 := hB2.cell 1; simp at hB2_0 hB2_1
          go_wp2_with fail
          go_region
          all_goals
            go_wp2_with fail
            exact bodyPost_ret (v := .tuple #[.int .i64 _, .int .i64 0]) (by simp only [results, Tryz.results14]; go_simp) rfl ⟨rfl, by (repeat' (first | exact Below.refl _ _ | assumption | refine Below.setCell ?_ ?_ _ | refine below_drewN ?_ _ | refine Below.drew ?_ | refine Below.alloc ?_ ?_ _ | (with_reducible refine Below.trans ?_ (Below.mono hb ?_)) | (with_reducible refine Below.trans ?_ (Below.mono hb0 ?_)) | (with_reducible refine Below.trans ?_ (Below.mono hb1 ?_)) | (with_reducible refine Below.trans ?_ (Below.mono hb2 ?_)) | (with_reducible refine Below.trans ?_ (Below.mono hb3 ?_)) | (with_reducible refine Below.trans ?_ (Below.mono hb4 ?_)) | (with_reducible refine Below.trans ?_ (Below.mono hb5 ?_)) | (with_reducible refine Below.trans ?_ (Below.mono hb6 ?_)) | (with_reducible refine Below.trans ?_ (Below.mono hb7 ?_)) | (with_reducible refine Below.trans ?_ (Below.mono hb8 ?_)) | (with_reducible refine Below.trans ?_ (Below.mono hb9 ?_)) | (with_reducible refine Below.trans ?_ (Below.mono hb10 ?_)) | (with_reducible refine Below.trans ?_ (Below.mono hb11 ?_)) | (with_reducible refine Below.trans ?_ (Below.mono hb12 ?_)) | (with_reducible refine Below.trans ?_ (Below.mono hb13 ?_)) | (with_reducible refine Below.trans ?_ (Below.mono hb14 ?_)) | (with_reducible refine Below.trans ?_ (Below.mono hb15 ?_)) | omega | (simp; done) | (simp; omega)))⟩
        · have hw1 : IntKind.i64.wrap (1000000 * p) = 1000000 * p := IntWalk.i64_in _ (by omega)
          go_enter Tryz.func14, Tryz.ntmps14
          go_wp2_with fail
          refine (HR.out _).mono ?_
          rintro e w1 ⟨rfl, hb⟩
          have hB1 := (Box.new w 37 #[.int .i64 p, .int .i64 q]).below hb
          have hB2 := hB1.alloc (.cells #[.int .i64 500000, .int .i64 0, .int .i64 600000, .int .i64 800000, .int .i64 1000000] 3)
          have hzb := hb.size
          simp at hzb
          have hB1_l := hB1.lt; have hB1_0 := hB1.cell 0; have hB1_1 := hB1.cell 1; simp at hB1_0 hB1_1
          have hB2_l := hB2.lt; have hB2_0 := hB2.cell 0; have hB2_1 := hB2.cell 1; simp at hB2_0 hB2_1
          go_wp2_with fail
          go_region
          all_goals
            go_wp2_with fail
            exact bodyPost_ret (v := .tuple #[.int .i64 _, .int .i64 0]) (by simp only [results, Tryz.results14]; go_simp) rfl ⟨rfl, by (repeat' (first | exact Below.refl _ _ | assumption | refine Below.setCell ?_ ?_ _ | refine below_drewN ?_ _ | refine Below.drew ?_ | refine Below.alloc ?_ ?_ _ | (with_reducible refine Below.trans ?_ (Below.mono hb ?_)) | (with_reducible refine Below.trans ?_ (Below.mono hb0 ?_)) | (with_reducible refine Below.trans ?_ (Below.mono hb1 ?_)) | (with_reducible refine Below.trans ?_ (Below.mono hb2 ?_)) | (with_reducible refine Below.trans ?_ (Below.mono hb3 ?_)) | (with_reducible refine Below.trans ?_ (Below.mono hb4 ?_)) | (with_reducible refine Below.trans ?_ (Below.mono hb5 ?_)) | (with_reducible refine Below.trans ?_ (Below.mono hb6 ?_)) | (with_reducible refine Below.trans ?_ (Below.mono hb7 ?_)) | (with_reducible refine Below.trans ?_ (Below.mono hb8 ?_)) | (with_reducible refine Below.trans ?_ (Below.mono hb9 ?_)) | (with_reducible refine Below.trans ?_ (Below.mono hb10 ?_)) | (with_reducible refine Below.trans ?_ (Below.mono hb11 ?_)) | (with_reducible refine Below.trans ?_ (Below.mono hb12 ?_)) | (with_reducible refine Below.trans ?_ (Below.mono hb13 ?_)) | (with_reducible refine Below.trans ?_ (Below.mono hb14 ?_)) | (with_reducible refine Below.trans ?_ (Below.mono hb15 ?_)) | omega | (simp; done) | (simp; omega)))⟩
end Go.Proofs.YtpgofjjcmldhpaaGreatDoor

/-! A field's affinity and its rows of worths. -/
namespace Go.Proofs.YtpgofjjcmldhpaaGreatDoor
open Go.RowKit
set_option linter.unusedVariables false
set_option linter.unusedSimpArgs false

theorem belowKp {base : Nat} {a w w' : World} {X : Nat → Prop} (h : Below base a w) (hk : Kp X w w') (hX : ∀ k, X k → base ≤ k) (hbase : base ≤ w.heap.size) : Below base a w' :=
  ⟨hk.os.trans h.os, hk.tape.trans h.tape, hk.output.trans h.output, Nat.le_trans h.size hk.size, fun k hkk => (hk.block k (Nat.lt_of_lt_of_le hkk hbase) (fun hx => by have := hX k hx; omega)).trans (h.block k hkk)⟩
theorem cellKp {X : Nat → Prop} {w w' : World} (hk : Kp X w w') {b o : Nat} {v : Value} (hX : ¬ X b) (h : w.cell? ⟨b, o, none⟩ = some v) : w'.cell? ⟨b, o, none⟩ = some v := by
  have hl := cell_lt h
  rw [← h]
  unfold World.cell?
  rw [hk.block b hl hX]
set_option maxRecDepth 100000 in
set_option maxHeartbeats 4000000 in
theorem fieldAff_any (l : List Topic) (fb xb : Nat) (p : Paper) (r : Reader) (w : World) (hX0 : w.cell? ⟨xb, 0, none⟩ = some (.map (some fb))) (hF : FMap w fb l l.length) (hs : SA w r.a r.skills) (ht : SA w p.a2 p.topics)
    (hlen : l.length ≤ 1000) (hsl : r.skills.length ≤ 1000000) (htl : p.topics.length ≤ 8) (hok : SkillFit l r.skills) (htk : ∀ t ∈ p.topics, (ab l t).length ≤ 5) :
    Calls Tryz.prog 113 #[.pointer (some ⟨xb, 0, none⟩), encPaper p, encReader r] w (Gives (affV l r.skills p.topics) w) := by
  have HA := Lib.hid (fun W h1 h2 h3 => affinity_any l fb r.skills r.a r.c p.topics p.a2 p.c2 W h1 h2 h3 hlen hsl htl hok htk)
  rw [affV_eq] at HA ⊢
  generalize affP l r.skills p.topics = ap at *
  generalize affQ l r.skills p.topics = aq at *
  obtain ⟨x1, x2, x3, x4, x5, x6, x7, x8, x9⟩ := p
  obtain ⟨y1, y2, y3, y4⟩ := r
  unfold encPaper encReader
  simp only at hs ht HA ⊢
  have hXl := cell_lt hX0
  have hb1 : Below w.heap.size w (((w.alloc (.cells #[.string x1, .string x2, .string x3, .slice x6 x4.length x7, .slice x8 x5.length x9] 86)).alloc (.cells #[.string y1, .slice y3 y2.length y4] 92)).alloc (.cells #[.int .i64 0, .int .i64 0] 37)) := by (repeat' (first | exact Below.refl _ _ | assumption | refine Below.setCell ?_ ?_ _ | refine below_drewN ?_ _ | refine Below.drew ?_ | refine Below.alloc ?_ ?_ _ | (with_reducible refine Below.trans ?_ (Below.mono hb ?_)) | (with_reducible refine Below.trans ?_ (Below.mono hb0 ?_)) | (with_reducible refine Below.trans ?_ (Below.mono hb1 ?_)) | (with_reducible refine Below.trans ?_ (Below.mono hb2 ?_)) | (with_reducible refine Below.trans ?_ (Below.mono hb3 ?_)) | (with_reducible refine Below.trans ?_ (Below.mono hb4 ?_)) | (with_reducible refine Below.trans ?_ (Below.mono hb5 ?_)) | (with_reducible refine Below.trans ?_ (Below.mono hb6 ?_)) | (with_reducible refine Below.trans ?_ (Below.mono hb7 ?_)) | (with_reducible refine Below.trans ?_ (Below.mono hb8 ?_)) | (with_reducible refine Below.trans ?_ (Below.mono hb9 ?_)) | (with_reducible refine Below.trans ?_ (Below.mono hb10 ?_)) | (with_reducible refine Below.trans ?_ (Below.mono hb11 ?_)) | (with_reducible refine Below.trans ?_ (Below.mono hb12 ?_)) | (with_reducible refine Below.trans ?_ (Below.mono hb13 ?_)) | (with_reducible refine Below.trans ?_ (Below.mono hb14 ?_)) | (with_reducible refine Below.trans ?_ (Below.mono hb15 ?_)) | omega | (simp; done) | (simp; omega)))
  have hX1 := cell_later hb1 hX0
  have hB1 := ((Box.new w 86 #[.string x1, .string x2, .string x3, .slice x6 x4.length x7, .slice x8 x5.length x9]).alloc (.cells #[.string y1, .slice y3 y2.length y4] 92)).alloc (.cells #[.int .i64 0, .int .i64 0] 37)
  have hB2 := (Box.newAt (w.alloc (.cells #[.string x1, .string x2, .string x3, .slice x6 x4.length x7, .slice x8 x5.length x9] 86)) (w.heap.size + 1) 92 #[.string y1, .slice y3 y2.length y4] (by simp)).alloc (.cells #[.int .i64 0, .int .i64 0] 37)
  have hB3 := Box.newAt ((w.alloc (.cells #[.string x1, .string x2, .string x3, .slice x6 x4.length x7, .slice x8 x5.length x9] 86)).alloc (.cells #[.string y1, .slice y3 y2.length y4] 92)) (w.heap.size + 1 + 1) 37 #[.int .i64 0, .int .i64 0] (by simp)
  have hp4 := hB1.cell 4
  have hr1 := hB2.cell 1
  have hz1 := hb1.size
  go_enter Tryz.func113, Tryz.ntmps113
  go_upto_region 1 with (fail)
  refine wp_region_held_drew (S := (fun wx => wx.cell? ⟨xb, 0, none⟩ = some (.map (some fb)) ∧ wx.cell? ⟨w.heap.size, 4, none⟩ = some (.slice x8 x5.length x9) ∧ wx.cell? ⟨w.heap.size + 1, 1, none⟩ = some (.slice y3 y2.length y4) ∧ Below w.heap.size w wx)) (by kernel_rfl) ?hS (fun hHeld => ?_)
  case hS => exact ⟨hX1, hp4, hr1, hb1.drew⟩
  refine rtake (i := 0) (d := (some 7)) (v := ?_) rfl (by kernel_rfl) (by kernel_rfl) (by kernel_rfl) (by kernel_rfl) (fun _ _ _ h => h) (by kernel_rfl) (by assumption) ?_ ?_
  rotate_left 1
  · (intro wI hSI; (try dsimp only at hSI); go_simp; (try with_reducible rfl))
  simp only [Act.put, List.setIfInBounds_toArray, List.set_cons_zero, List.set_cons_succ]
  refine rtake (i := 1) (d := (some 8)) (v := ?_) rfl (by kernel_rfl) (by kernel_rfl) (by kernel_rfl) (by kernel_rfl) (fun _ _ _ h => h) (by kernel_rfl) (by assumption) ?_ ?_
  rotate_left 1
  · (intro wI hSI; (try dsimp only at hSI); go_simp; (try with_reducible rfl))
  simp only [Act.put, List.setIfInBounds_toArray, List.set_cons_zero, List.set_cons_succ]
  refine rtake (i := 2) (d := (some 9)) (v := ?_) rfl (by kernel_rfl) (by kernel_rfl) (by kernel_rfl) (by kernel_rfl) (fun _ _ _ h => h) (by kernel_rfl) (by assumption) ?_ ?_
  rotate_left 1
  · (intro wI hSI; (try dsimp only at hSI); go_simp; (try with_reducible rfl))
  simp only [Act.put, List.setIfInBounds_toArray, List.set_cons_zero, List.set_cons_succ]
  refine rtake (i := 3) (d := (some 10)) (v := ?_) rfl (by kernel_rfl) (by kernel_rfl) (by kernel_rfl) (by kernel_rfl) (fun _ _ _ h => h) (by kernel_rfl) (by assumption) ?_ ?_
  rotate_left 1
  · (intro wI hSI; (try dsimp only at hSI); go_simp; (try with_reducible rfl))
  simp only [Act.put, List.setIfInBounds_toArray, List.set_cons_zero, List.set_cons_succ]
  refine rtake (i := 4) (d := (some 11)) (v := ?_) rfl (by kernel_rfl) (by kernel_rfl) (by kernel_rfl) (by kernel_rfl) (fun _ _ _ h => h) (by kernel_rfl) (by assumption) ?_ ?_
  rotate_left 1
  · (intro wI hSI; (try dsimp only at hSI); go_simp; (try with_reducible rfl))
  simp only [Act.put, List.setIfInBounds_toArray, List.set_cons_zero, List.set_cons_succ]
  refine rtake (i := 5) (d := (some 12)) (v := ?_) rfl (by kernel_rfl) (by kernel_rfl) (by kernel_rfl) (by kernel_rfl) (fun _ _ _ h => h) (by kernel_rfl) (by assumption) ?_ ?_
  rotate_left 1
  · (intro wI hSI; (try dsimp only at hSI); go_simp; (try with_reducible rfl))
  simp only [Act.put, List.setIfInBounds_toArray, List.set_cons_zero, List.set_cons_succ]
  refine rtake (i := 6) (d := (some 13)) (v := ?_) rfl (by kernel_rfl) (by kernel_rfl) (by kernel_rfl) (by kernel_rfl) (fun _ _ _ h => h) (by kernel_rfl) (by assumption) ?_ ?_
  rotate_left 1
  · (intro wI hSI; (try dsimp only at hSI); go_simp; (try with_reducible rfl))
  simp only [Act.put, List.setIfInBounds_toArray, List.set_cons_zero, List.set_cons_succ]
  refine rtake (i := 7) (d := (some 14)) (v := ?_) rfl (by kernel_rfl) (by kernel_rfl) (by kernel_rfl) (by kernel_rfl) (fun _ _ _ h => h) (by kernel_rfl) (by assumption) ?_ ?_
  rotate_left 1
  · (intro wI hSI; (try dsimp only at hSI); go_simp; (try with_reducible rfl))
  simp only [Act.put, List.setIfInBounds_toArray, List.set_cons_zero, List.set_cons_succ]
  refine rcall (i := 8) (d := (some 15)) (by kernel_rfl) rfl (by kernel_rfl) (fun K hK => ?_)
  go_simp
  go_at_call 140; refine (HA.out _ (hF.below hHeld.2.2.2) (hs.below hHeld.2.2.2) (ht.below hHeld.2.2.2)).mono ?_; rintro e w3 ⟨rfl, hb3⟩
  refine hK.out _ _ ?hS (fun hHeld => ?_)
  case hS => exact ⟨cell_later hb3 hHeld.1, cell_later hb3 hHeld.2.1, cell_later hb3 hHeld.2.2.1, below_next hHeld.2.2.2 hb3⟩
  clear hK K
  simp only [Act.put, List.setIfInBounds_toArray, List.set_cons_zero, List.set_cons_succ]
  have hB33 := hB3.drew.below hb3
  have hbw3 := hHeld.2.2.2
  have hB33_l := hB33.lt; have hB33_0 := hB33.cell 0; have hB33_1 := hB33.cell 1; simp at hB33_0 hB33_1
  have hfr := hB33.frozen 0
  have hfr1 := hB33.frozen 1
  have hz3 := hbw3.size
  have hK2 := ((Kp.of_below (X := fun b => b = w.heap.size + 1 + 1) (Below.refl w3.heap.size w3)).setCell (p := ⟨w.heap.size + 1 + 1, 0, none⟩) (.inl rfl) (.int .i64 ap)).setCell (p := ⟨w.heap.size + 1 + 1, 1, none⟩) (.inl rfl) (.int .i64 aq)
  have hbw4 := belowKp hbw3 hK2 (by rintro k rfl; omega) hz3
  refine rcall (i := 9) (d := none) (by kernel_rfl) rfl (by kernel_rfl) (fun K hK => ?_)
  go_simp
  refine hK.out undef _ ?hS (fun hHeld => ?_)
  case hS => exact ⟨cellKp hK2 (by omega) hHeld.1, cellKp hK2 (by omega) hHeld.2.1, cellKp hK2 (by omega) hHeld.2.2.1, hbw4⟩
  clear hK K
  simp only [Act.put, List.setIfInBounds_toArray, List.set_cons_zero, List.set_cons_succ]
  refine wpAnyH_done (by kernel_rfl) ?_ _
  clear hHeld
  go_wp2_with fail
  exact bodyPost_ret (v := .agg #[.int .i64 ap, .int .i64 aq]) (by simp only [results, Tryz.results113]; go_simp) rfl ⟨rfl, hbw4⟩
/-- The worths of a paper to readers. -/
def rowL (l : List Topic) (bs : List Mark) (rs : List Reader) (p : Paper) : List Int := rs.map (fun r => worthN (affP l r.skills p.topics) (affQ l r.skills p.topics) (lvO bs (p.id, r.key)))
theorem rowL_snoc (l : List Topic) (bs : List Mark) {rs : List Reader} (p : Paper) {k : Nat} (hk : k < rs.length) : rowL l bs (rs.take (k + 1)) p = rowL l bs (rs.take k) p ++ [worthN (affP l rs[k].skills p.topics) (affQ l rs[k].skills p.topics) (lvO bs (p.id, rs[k].key))] := by
  unfold rowL; rw [List.take_succ_eq_append_getElem hk, List.map_append]; rfl
theorem rowL_length (l : List Topic) (bs : List Mark) (rs : List Reader) (p : Paper) : (rowL l bs rs p).length = rs.length := by simp [rowL]
theorem Tryz.infoIntR : (Tryz.prog.info? 3).map (fun i => (i.zero, i.size, i.bytes)) = some (some (.int .i64 0), 1, 8) := by kernel_rfl
set_option maxRecDepth 100000 in
set_option maxHeartbeats 8000000 in
theorem row_any (l : List Topic) (xb : Nat) (ps : List Paper) (pa : Option Addr) (pc : Nat) (rs : List Reader) (ra : Option Addr) (rc : Nat) (bs : List Mark) (p : Paper) (w : World) (hX : FieldAt w xb l ps pa pc rs ra rc bs) (hR : ReadersAt w ra rs) (ht : SA w p.a2 p.topics)
    (hlen : l.length ≤ 1000) (hrl : rs.length ≤ 1000) (hrm : ∀ r ∈ rs, RSmall r ∧ SkillFit l r.skills) (hid : p.id.size ≤ 1000) (htl : p.topics.length ≤ 8) (htk : ∀ t ∈ p.topics, (ab l t).length ≤ 5) (hbf : bidsFault bs = 0) (hn : (bs.map keyB2).Nodup) :
    Calls Tryz.prog 74 #[.pointer (some ⟨xb, 0, none⟩), encPaper p] w (fun e w' => ∃ v, e = .returned v ∧ Own w.heap.size 3 w' v (rowL l bs rs p) ∧ Below w.heap.size w w') := by
  obtain ⟨fb, lb, hX, hF, hG⟩ := hX
  have HA := Lib.hid (fun (r : Reader) (h : RSmall r ∧ SkillFit l r.skills) W h0 h1 h2 h3 => fieldAff_any l fb xb p r W h0 h1 h2 h3 hlen (by have := h.1.2; omega) htl h.2 htk)
  have HAb := Lib.hid (fun (r : Reader) (h : RSmall r ∧ SkillFit l r.skills) => aff_right (s := r.skills) (ts := p.topics) hlen h.2 htk htl)
  have HSn := Lib.hid (fun k hk => rowL_snoc l bs (rs := rs) p (k := k) hk)
  have HLn := Lib.hid (fun k => rowL_length l bs (rs.take k) p)
  have HLv := Lib.hid (fun k => lvO_bd hbf k)
  obtain ⟨x1, x2, x3, x4, x5, x6, x7, x8, x9⟩ := p
  have Hfin := Lib.hid (show rowL l bs (rs.take rs.length) ⟨x1, x2, x3, x4, x5, x6, x7, x8, x9⟩ = rowL l bs rs ⟨x1, x2, x3, x4, x5, x6, x7, x8, x9⟩ by rw [List.take_length])
  have Hnil := Lib.hid (show rowL l bs (rs.take 0) ⟨x1, x2, x3, x4, x5, x6, x7, x8, x9⟩ = [] from rfl)
  unfold encPaper at *
  simp only at ht hid htl htk HA HAb HSn ⊢
  have hb0 : Below w.heap.size w (w.alloc (.cells #[.string x1, .string x2, .string x3, .slice x6 x4.length x7, .slice x8 x5.length x9] 86)) := by (repeat' (first | exact Below.refl _ _ | assumption | refine Below.setCell ?_ ?_ _ | refine below_drewN ?_ _ | refine Below.drew ?_ | refine Below.alloc ?_ ?_ _ | (with_reducible refine Below.trans ?_ (Below.mono hb ?_)) | (with_reducible refine Below.trans ?_ (Below.mono hb0 ?_)) | (with_reducible refine Below.trans ?_ (Below.mono hb1 ?_)) | (with_reducible refine Below.trans ?_ (Below.mono hb2 ?_)) | (with_reducible refine Below.trans ?_ (Below.mono hb3 ?_)) | (with_reducible refine Below.trans ?_ (Below.mono hb4 ?_)) | (with_reducible refine Below.trans ?_ (Below.mono hb5 ?_)) | (with_reducible refine Below.trans ?_ (Below.mono hb6 ?_)) | (with_reducible refine Below.trans ?_ (Below.mono hb7 ?_)) | (with_reducible refine Below.trans ?_ (Below.mono hb8 ?_)) | (with_reducible refine Below.trans ?_ (Below.mono hb9 ?_)) | (with_reducible refine Below.trans ?_ (Below.mono hb10 ?_)) | (with_reducible refine Below.trans ?_ (Below.mono hb11 ?_)) | (with_reducible refine Below.trans ?_ (Below.mono hb12 ?_)) | (with_reducible refine Below.trans ?_ (Below.mono hb13 ?_)) | (with_reducible refine Below.trans ?_ (Below.mono hb14 ?_)) | (with_reducible refine Below.trans ?_ (Below.mono hb15 ?_)) | omega | (simp; done) | (simp; omega)))
  have hX1 := hX.below hb0
  have hF1 := hF.below hb0
  have hG1 := hG.below hb0
  have hR1 := hR.below hb0
  have ht1 := ht.below hb0
  have hB1 := Box.new w 86 #[.string x1, .string x2, .string x3, .slice x6 x4.length x7, .slice x8 x5.length x9]
  have hXl : xb < w.heap.size := hX.lt
  have hz1 : w.heap.size < (w.alloc (.cells #[.string x1, .string x2, .string x3, .slice x6 x4.length x7, .slice x8 x5.length x9] 86)).heap.size := by simp
  have hX2 := hX1.cell 2
  clear hX hF hG hR ht
  go_enter Tryz.func74, Tryz.ntmps74
  go_wp2_with fail
  generalize w.alloc (.cells #[.string x1, .string x2, .string x3, .slice x6 x4.length x7, .slice x8 x5.length x9] 86) = W0 at *
  go_loopg [5, 13] rs.length (fun gk v i wr => ∃ k : Nat, i = .int .i64 k ∧ k ≤ rs.length ∧ Hid (gk = rs.length - k) ∧ Own W0.heap.size 3 wr v (rowL l bs (rs.take k) ⟨x1, x2, x3, x4, x5, x6, x7, x8, x9⟩) ∧ Below W0.heap.size W0 wr)
  case atStart => exact ⟨0, rfl, by omega, rfl, by rw [Hnil.out]; exact Own.nil _ _ _, Below.refl _ _⟩
  obtain ⟨k, rfl, hk, hgk, hown, hb⟩ := hrel
  have hzr := hb.size
  by_cases hlt : k < rs.length
  · obtain ⟨pb, poff, ha, c0, c1⟩ := (hR1.below hb).1.reader hlt
    have hrd := hR1.2 rs[k] (List.getElem_mem hlt)
    have hrs := hrm rs[k] (List.getElem_mem hlt)
    have HAk := Lib.hid (HA.out rs[k] hrs)
    have HAbk := HAb.out rs[k] hrs
    have HSk := Lib.hid (HSn.out k hlt)
    have HLk := HLn.out k
    rw [List.length_take] at HLk
    have Ha := Lib.hid ha
    rw [ha]
    clear ha
    generalize rs[k] = r at *
    obtain ⟨y1, y2, y3, y4⟩ := r
    unfold encReader at HAk
    rw [affV_eq] at HAk
    simp only at c0 c1 hrd hrs HAk HAbk HSk
    obtain ⟨r1, r2, r3, r4, r5⟩ := HAbk
    obtain ⟨v1, v2⟩ := HLv.out (x1, y1)
    have hky := hrs.1.1
    simp only at hky
    have hlk0 := looked_lv hn (x1, y1)
    have hb1 : Below W0.heap.size W0 (wr.alloc (.cells #[.string y1, .slice y3 y2.length y4] 92)) := by (repeat' (first | exact Below.refl _ _ | assumption | refine Below.setCell ?_ ?_ _ | refine below_drewN ?_ _ | refine Below.drew ?_ | refine Below.alloc ?_ ?_ _ | (with_reducible refine Below.trans ?_ (Below.mono hb ?_)) | (with_reducible refine Below.trans ?_ (Below.mono hb0 ?_)) | (with_reducible refine Below.trans ?_ (Below.mono hb1 ?_)) | (with_reducible refine Below.trans ?_ (Below.mono hb2 ?_)) | (with_reducible refine Below.trans ?_ (Below.mono hb3 ?_)) | (with_reducible refine Below.trans ?_ (Below.mono hb4 ?_)) | (with_reducible refine Below.trans ?_ (Below.mono hb5 ?_)) | (with_reducible refine Below.trans ?_ (Below.mono hb6 ?_)) | (with_reducible refine Below.trans ?_ (Below.mono hb7 ?_)) | (with_reducible refine Below.trans ?_ (Below.mono hb8 ?_)) | (with_reducible refine Below.trans ?_ (Below.mono hb9 ?_)) | (with_reducible refine Below.trans ?_ (Below.mono hb10 ?_)) | (with_reducible refine Below.trans ?_ (Below.mono hb11 ?_)) | (with_reducible refine Below.trans ?_ (Below.mono hb12 ?_)) | (with_reducible refine Below.trans ?_ (Below.mono hb13 ?_)) | (with_reducible refine Below.trans ?_ (Below.mono hb14 ?_)) | (with_reducible refine Below.trans ?_ (Below.mono hb15 ?_)) | omega | (simp; done) | (simp; omega)))
    have hBp := hB1.below hb1
    have hXp := hX1.below hb1
    have hGp := hG1.below hb1
    have hBr := Box.new wr 92 #[.string y1, .slice y3 y2.length y4]
    have hown1 := hown.alloc (.cells #[.string y1, .slice y3 y2.length y4] 92)
    obtain ⟨acc2, ha2⟩ : ∃ a, rowL l bs (rs.take (k + 1)) ⟨x1, x2, x3, x4, x5, x6, x7, x8, x9⟩ = a := ⟨_, rfl⟩
    rw [ha2] at HSk
    have HA2 := Lib.hid ha2
    clear ha2
    generalize rowL l bs (rs.take k) _ = acc at *
    generalize affP l y2 x5 = ap at *
    generalize affQ l y2 x5 = aq at *
    generalize lvO bs (x1, y1) = lv at *
    have HlO := Lib.hid hown.lt
    have hlb := hG1.lt
    have hp1 : ¬ u5.ownBlock = some w.heap.size := fun e => by have := (HlO.out _ e).1; omega
    have hp2 : ¬ u5.ownBlock = some wr.heap.size := fun e => by have := (HlO.out _ e).2; omega
    have hp3 : ¬ u5.ownBlock = some xb := fun e => by have := (HlO.out _ e).1; omega
    have hp4 : ¬ u5.ownBlock = some lb := fun e => by have := (HlO.out _ e).1; omega
    have HS : Hid (∀ wx, Kp (fun b => u5.ownBlock = some b) (wr.alloc (.cells #[.string y1, .slice y3 y2.length y4] 92)) wx → (fun wx => wx.cell? ⟨w.heap.size, 0, none⟩ = some (.string x1) ∧ wx.cell? ⟨w.heap.size, 1, none⟩ = some (.string x2) ∧ wx.cell? ⟨w.heap.size, 2, none⟩ = some (.string x3) ∧ wx.cell? ⟨w.heap.size, 3, none⟩ = some (.slice x6 x4.length x7) ∧ wx.cell? ⟨w.heap.size, 4, none⟩ = some (.slice x8 x5.length x9) ∧ wx.cell? ⟨wr.heap.size, 0, none⟩ = some (.string y1) ∧ wx.cell? ⟨wr.heap.size, 1, none⟩ = some (.slice y3 y2.length y4) ∧ wx.cell? ⟨xb, 3, none⟩ = some (.map (some lb)) ∧ (Instr.lookup 133 (.map (some lb)) (.agg #[.string x1, .string y1]) false).run Tryz.prog wx = .ok (.int .i64 lv) wx) wx) := fun wx h => ⟨(hBp.kp h hp1).cell 0, (hBp.kp h hp1).cell 1, (hBp.kp h hp1).cell 2, (hBp.kp h hp1).cell 3, (hBp.kp h hp1).cell 4, (hBr.kp h hp2).cell 0, (hBr.kp h hp2).cell 1, (hXp.kp h hp3).cell 3, by rw [← hlk0]; exact (hGp.kp h hp4).look keys2 Tryz.underlying133 (.int .i64 0) (fun w => Tryz.zeroValue3 w) (x1, y1) ⟨by show x1.size ≤ 1000000; omega, by show y1.size ≤ 1000000; omega⟩ false⟩
    have HW := Lib.hid (fun W => worthP_any ap aq lv W r3 r4 r5 v1 v2)
    generalize worthN ap aq lv = wn at *
    clear hlk0 hBp hXp hGp hown hp1 hp2 hp3 hp4 r1 r2 r3 r4 r5 v1 v2
    have hal : acc.length = k := by omega
    have Hal := Lib.hid hal
    clear hal HLk
    go_upto_region 5 with (fail)
    refine wp_region_held_drew (S := (fun wx => wx.cell? ⟨w.heap.size, 0, none⟩ = some (.string x1) ∧ wx.cell? ⟨w.heap.size, 1, none⟩ = some (.string x2) ∧ wx.cell? ⟨w.heap.size, 2, none⟩ = some (.string x3) ∧ wx.cell? ⟨w.heap.size, 3, none⟩ = some (.slice x6 x4.length x7) ∧ wx.cell? ⟨w.heap.size, 4, none⟩ = some (.slice x8 x5.length x9) ∧ wx.cell? ⟨wr.heap.size, 0, none⟩ = some (.string y1) ∧ wx.cell? ⟨wr.heap.size, 1, none⟩ = some (.slice y3 y2.length y4) ∧ wx.cell? ⟨xb, 3, none⟩ = some (.map (some lb)) ∧ (Instr.lookup 133 (.map (some lb)) (.agg #[.string x1, .string y1]) false).run Tryz.prog wx = .ok (.int .i64 lv) wx)) (by kernel_rfl) ?hS (fun hHeld => ?_)
    case hS => exact HS.out _ (Kp.refl _ _).drew
    refine rtake (i := 0) (d := (some 17)) (v := ?_) rfl (by kernel_rfl) (by kernel_rfl) (by kernel_rfl) (by kernel_rfl) (fun _ _ _ h => h) (by kernel_rfl) (by assumption) ?_ ?_
    rotate_left 1
    · (intro wI hSI; (try dsimp only at hSI); go_simp; (try with_reducible rfl))
    simp only [Act.put, List.setIfInBounds_toArray, List.set_cons_zero, List.set_cons_succ]
    refine rtake (i := 1) (d := (some 18)) (v := ?_) rfl (by kernel_rfl) (by kernel_rfl) (by kernel_rfl) (by kernel_rfl) (fun _ _ _ h => h) (by kernel_rfl) (by assumption) ?_ ?_
    rotate_left 1
    · (intro wI hSI; (try dsimp only at hSI); go_simp; (try with_reducible rfl))
    simp only [Act.put, List.setIfInBounds_toArray, List.set_cons_zero, List.set_cons_succ]
    refine rtake (i := 2) (d := (some 19)) (v := ?_) rfl (by kernel_rfl) (by kernel_rfl) (by kernel_rfl) (by kernel_rfl) (fun _ _ _ h => h) (by kernel_rfl) (by assumption) ?_ ?_
    rotate_left 1
    · (intro wI hSI; (try dsimp only at hSI); go_simp; (try with_reducible rfl))
    simp only [Act.put, List.setIfInBounds_toArray, List.set_cons_zero, List.set_cons_succ]
    refine rtake (i := 3) (d := (some 20)) (v := ?_) rfl (by kernel_rfl) (by kernel_rfl) (by kernel_rfl) (by kernel_rfl) (fun _ _ _ h => h) (by kernel_rfl) (by assumption) ?_ ?_
    rotate_left 1
    · (intro wI hSI; (try dsimp only at hSI); go_simp; (try with_reducible rfl))
    simp only [Act.put, List.setIfInBounds_toArray, List.set_cons_zero, List.set_cons_succ]
    refine rtake (i := 5) (d := (some 22)) (v := ?_) rfl (by kernel_rfl) (by kernel_rfl) (by kernel_rfl) (by kernel_rfl) (fun _ _ _ h => h) (by kernel_rfl) (by assumption) ?_ ?_
    rotate_left 1
    · (intro wI hSI; (try dsimp only at hSI); go_simp; (try with_reducible rfl))
    simp only [Act.put, List.setIfInBounds_toArray, List.set_cons_zero, List.set_cons_succ]
    refine rtake (i := 6) (d := (some 23)) (v := ?_) rfl (by kernel_rfl) (by kernel_rfl) (by kernel_rfl) (by kernel_rfl) (fun _ _ _ h => h) (by kernel_rfl) (by assumption) ?_ ?_
    rotate_left 1
    · (intro wI hSI; (try dsimp only at hSI); go_simp; (try with_reducible rfl))
    simp only [Act.put, List.setIfInBounds_toArray, List.set_cons_zero, List.set_cons_succ]
    refine rtake (i := 7) (d := (some 24)) (v := ?_) rfl (by kernel_rfl) (by kernel_rfl) (by kernel_rfl) (by kernel_rfl) (fun _ _ _ h => h) (by kernel_rfl) (by assumption) ?_ ?_
    rotate_left 1
    · (intro wI hSI; (try dsimp only at hSI); go_simp; (try with_reducible rfl))
    simp only [Act.put, List.setIfInBounds_toArray, List.set_cons_zero, List.set_cons_succ]
    refine rtake (i := 8) (d := (some 25)) (v := ?_) rfl (by kernel_rfl) (by kernel_rfl) (by kernel_rfl) (by kernel_rfl) (fun _ _ _ h => h) (by kernel_rfl) (by assumption) ?_ ?_
    rotate_left 1
    · (intro wI hSI; (try dsimp only at hSI); go_simp; (try with_reducible rfl))
    simp only [Act.put, List.setIfInBounds_toArray, List.set_cons_zero, List.set_cons_succ]
    refine rtake (i := 9) (d := (some 26)) (v := ?_) rfl (by kernel_rfl) (by kernel_rfl) (by kernel_rfl) (by kernel_rfl) (fun _ _ _ h => h) (by kernel_rfl) (by assumption) ?_ ?_
    rotate_left 1
    · (intro wI hSI; (try dsimp only at hSI); go_simp; (try with_reducible rfl))
    simp only [Act.put, List.setIfInBounds_toArray, List.set_cons_zero, List.set_cons_succ]
    refine rtake (i := 10) (d := (some 27)) (v := ?_) rfl (by kernel_rfl) (by kernel_rfl) (by kernel_rfl) (by kernel_rfl) (fun _ _ _ h => h) (by kernel_rfl) (by assumption) ?_ ?_
    rotate_left 1
    · (intro wI hSI; (try dsimp only at hSI); go_simp; (try with_reducible rfl))
    simp only [Act.put, List.setIfInBounds_toArray, List.set_cons_zero, List.set_cons_succ]
    refine rtake (i := 11) (d := (some 28)) (v := ?_) rfl (by kernel_rfl) (by kernel_rfl) (by kernel_rfl) (by kernel_rfl) (fun _ _ _ h => h) (by kernel_rfl) (by assumption) ?_ ?_
    rotate_left 1
    · (intro wI hSI; (try dsimp only at hSI); go_simp; (try with_reducible rfl))
    simp only [Act.put, List.setIfInBounds_toArray, List.set_cons_zero, List.set_cons_succ]
    refine rtake (i := 12) (d := (some 29)) (v := ?_) rfl (by kernel_rfl) (by kernel_rfl) (by kernel_rfl) (by kernel_rfl) (fun _ _ _ h => h) (by kernel_rfl) (by assumption) ?_ ?_
    rotate_left 1
    · (intro wI hSI; (try dsimp only at hSI); go_simp; (try with_reducible rfl))
    simp only [Act.put, List.setIfInBounds_toArray, List.set_cons_zero, List.set_cons_succ]
    refine rtake (i := 13) (d := (some 30)) (v := ?_) rfl (by kernel_rfl) (by kernel_rfl) (by kernel_rfl) (by kernel_rfl) (fun _ _ _ h => h) (by kernel_rfl) (by assumption) ?_ ?_
    rotate_left 1
    · (intro wI hSI; (try dsimp only at hSI); go_simp; (try with_reducible rfl))
    simp only [Act.put, List.setIfInBounds_toArray, List.set_cons_zero, List.set_cons_succ]
    refine rtake (i := 14) (d := (some 31)) (v := ?_) rfl (by kernel_rfl) (by kernel_rfl) (by kernel_rfl) (by kernel_rfl) (fun _ _ _ h => h) (by kernel_rfl) (by assumption) ?_ ?_
    rotate_left 1
    · (intro wI hSI; (try dsimp only at hSI); go_simp; (try with_reducible rfl))
    simp only [Act.put, List.setIfInBounds_toArray, List.set_cons_zero, List.set_cons_succ]
    refine rcall (i := 4) (d := (some 21)) (by kernel_rfl) rfl (by kernel_rfl) (fun K hK => ?_)
    go_simp
    go_at_call 113; refine (HAk.out _ ((hX1.below (below_next hb1 (Below.refl _ _).drew)).cell 0) (hF1.below (below_next hb1 (Below.refl _ _).drew)) (hrd.below (below_next hb1 (Below.refl _ _).drew)) (ht1.below (below_next hb1 (Below.refl _ _).drew))).mono ?_; rintro e w3 ⟨rfl, hb3⟩; have hb3' := below_next (Below.refl _ _).drew hb3
    refine hK.out _ _ ?hS (fun hHeld => ?_)
    case hS => exact HS.out _ (Kp.of_below hb3')
    clear hK K
    simp only [Act.put, List.setIfInBounds_toArray, List.set_cons_zero, List.set_cons_succ]
    refine rcall (i := 15) (d := (some 32)) (by kernel_rfl) rfl (by kernel_rfl) (fun K hK => ?_)
    go_simp
    go_at_call 52; refine (HW.out _).mono ?_; rintro e w4 ⟨rfl, hb4⟩; have hb4' := below_next hb3' hb4
    refine hK.out _ _ ?hS (fun hHeld => ?_)
    case hS => exact HS.out _ (Kp.of_below hb4')
    clear hK K
    simp only [Act.put, List.setIfInBounds_toArray, List.set_cons_zero, List.set_cons_succ]
    have hz4 := hb4'.size
    simp at hz4
    have hb04 := below_next hb1 hb4'
    have hbA : Below W0.heap.size W0 (w4.alloc (.cells #[.int .i64 wn] 3)) := by (repeat' (first | exact Below.refl _ _ | assumption | refine Below.setCell ?_ ?_ _ | refine below_drewN ?_ _ | refine Below.drew ?_ | refine Below.alloc ?_ ?_ _ | (with_reducible refine Below.trans ?_ (Below.mono hb ?_)) | (with_reducible refine Below.trans ?_ (Below.mono hb0 ?_)) | (with_reducible refine Below.trans ?_ (Below.mono hb1 ?_)) | (with_reducible refine Below.trans ?_ (Below.mono hb2 ?_)) | (with_reducible refine Below.trans ?_ (Below.mono hb3 ?_)) | (with_reducible refine Below.trans ?_ (Below.mono hb4 ?_)) | (with_reducible refine Below.trans ?_ (Below.mono hb5 ?_)) | (with_reducible refine Below.trans ?_ (Below.mono hb6 ?_)) | (with_reducible refine Below.trans ?_ (Below.mono hb7 ?_)) | (with_reducible refine Below.trans ?_ (Below.mono hb8 ?_)) | (with_reducible refine Below.trans ?_ (Below.mono hb9 ?_)) | (with_reducible refine Below.trans ?_ (Below.mono hb10 ?_)) | (with_reducible refine Below.trans ?_ (Below.mono hb11 ?_)) | (with_reducible refine Below.trans ?_ (Below.mono hb12 ?_)) | (with_reducible refine Below.trans ?_ (Below.mono hb13 ?_)) | (with_reducible refine Below.trans ?_ (Below.mono hb14 ?_)) | (with_reducible refine Below.trans ?_ (Below.mono hb15 ?_)) | omega | (simp; done) | (simp; omega)))
    have hkA := (Kp.of_below (X := fun b => u5.ownBlock = some b) hb4').alloc (.cells #[.int .i64 wn] 3)
    refine rcall (i := 16) (d := (some 33)) (by kernel_rfl) rfl (by kernel_rfl) (fun K hK => ?_)
    go_simp
    refine hK.out _ _ ?hS (fun hHeld => ?_)
    case hS => exact HS.out _ hkA
    clear hK K
    simp only [Act.put, List.setIfInBounds_toArray, List.set_cons_zero, List.set_cons_succ]
    have hoA := ((hown1.drew.below hb3).below hb4).alloc (.cells #[.int .i64 wn] 3)
    refine rcall (i := 17) (d := (some 34)) (by kernel_rfl) rfl (by kernel_rfl) (fun K hK => ?_)
    refine step_append_lie (by rfl) _ _ 22 (by rfl) 3 8 (.int .i64 0) Tryz.underlying22 Tryz.infoIntR (by rfl) u5 acc (by rfl) hoA wn _ (by rfl) (Box.new _ _ _) (by have := Hal.out; omega) (by have := Hal.out; omega) (by simp; omega) ?_; intro g9 cap9 w5 hown5 hg5 hat5; have hk5 := hkA.grown hg5 (fun j hj => .inl hj); have hb5 := hbA.grown hg5 (by simp; omega) (fun j hj => by have := (HlO.out _ hj).1; omega)
    refine hK.out _ _ ?hS (fun hHeld => ?_)
    case hS => exact HS.out _ hk5
    clear hK K
    simp only [Act.put, List.setIfInBounds_toArray, List.set_cons_zero, List.set_cons_succ]
    refine rtake (i := 18) (d := (some 5)) (v := ?_) rfl (by kernel_rfl) (by kernel_rfl) (by kernel_rfl) (by kernel_rfl) (fun _ _ _ h => h) (by kernel_rfl) (by assumption) ?_ ?_
    rotate_left 1
    · (intro wI hSI; (try dsimp only at hSI); go_simp; (try with_reducible rfl))
    simp only [Act.put, List.setIfInBounds_toArray, List.set_cons_zero, List.set_cons_succ]
    refine wpAnyH_done (by kernel_rfl) ?_ _
    rw [← HSk.out] at hown5
    rw [Hal.out, ← Ha.out]
    clear hHeld
    go_wp2_with fail
    go_roundg (rs.length - (k + 1))
    case measure => have := hgk.out; omega
    case rel => exact ⟨k + 1, by go_num, by omega, rfl, by rw [HA2.out]; first | exact hown5 | (rw [← Hal.out]; exact hown5), hb5⟩
  · obtain rfl : k = rs.length := by omega
    rw [Hfin.out] at hown
    go_wp2_with fail
    go_ret
    exact ⟨_, rfl, hown.mono (by omega), below_next hb0 hb⟩
end Go.Proofs.YtpgofjjcmldhpaaGreatDoor

/-! Rows of numbers. -/
namespace Go.Proofs.YtpgofjjcmldhpaaGreatDoor
open Go.RowKit
set_option linter.unusedVariables false
set_option linter.unusedSimpArgs false

/-- A row of numbers as it lies in memory. -/
structure IRow where
  xs : List Int
  a : Option Addr
  c : Nat
instance : Cel IRow := ⟨1, fun r => [.slice r.a r.xs.length r.c], fun _ => rfl, by decide, by simp [Value.oneCell']⟩
theorem Tryz.infoIRow : (Tryz.prog.info? 22).map (fun i => (i.zero, i.size, i.bytes)) = some (some (.slice none 0 0), 1, 24) := by kernel_rfl
theorem SA.irow {w : World} {a : Option Addr} {l : List IRow} (h : SA w a l) {i : Nat} (hi : i < l.length) :
    ∃ b off, a = some ⟨b, off, none⟩ ∧ w.cell? ⟨b, off + i, none⟩ = some (.slice l[i].a l[i].xs.length l[i].c) := by
  obtain ⟨b, off, ha, hc⟩ := h.at hi
  have := hc 0 (by decide)
  rw [show off + (i * Cel.k IRow + 0) = off + i by show off + (i * 1 + 0) = off + i; omega] at this
  exact ⟨b, off, ha, this⟩
def RowIn (base : Nat) (w : World) (u : Value) (r : IRow) : Prop := SA w r.a r.xs ∧ (∀ j, u.ownBlock = some j → ∀ x : Addr, r.a = some x → x.block ≠ j) ∧ ∀ x : Addr, r.a = some x → base ≤ x.block ∧ x.block < w.heap.size
theorem rows_step {base : Nat} {wr W w3 : World} {u : Value} {acc : List IRow} {xs : List Int} {xa : Option Addr} {xc g9 n9 c9 T : Nat} {vs : Array Value}
    (hwW : Below wr.heap.size wr W) (hsk : SA W xa xs) (hblk : ∀ x : Addr, xa = some x → wr.heap.size ≤ x.block ∧ x.block < W.heap.size)
    (hown : Own base 22 wr u acc) (hg : (W.alloc (.cells vs T)).grownBy w3 u.ownBlock) (hat : u.ownBlock = some g9 ∨ g9 = (W.alloc (.cells vs T)).heap.size)
    (hrd : ∀ r ∈ acc, RowIn base wr u r) (hbs : base ≤ wr.heap.size) : ∀ r ∈ acc ++ [(⟨xs, xa, xc⟩ : IRow)], RowIn base w3 (.slice (some ⟨g9, 0, none⟩) n9 c9) r := by
  have hlt := hown.lt
  have hz := hwW.size
  have hzg := hg.size
  simp at hzg
  intro r hr
  have h9 : ∀ j, (Value.slice (some ⟨g9, 0, none⟩) n9 c9).ownBlock = some j → g9 = j := fun j hj => by simpa [Value.ownBlock] using hj
  rcases List.mem_append.1 hr with hr | hr
  · obtain ⟨q1, q2, q3⟩ := hrd r hr
    refine ⟨((q1.below hwW).alloc _).grownS hg (fun x hx e => q2 _ e.symm x hx rfl), fun j hj x hx => ?_, fun x hx => by have := q3 x hx; omega⟩
    obtain rfl := h9 j hj
    rcases hat with h | h
    · exact q2 _ h x hx
    · simp at h; have := q3 x hx; omega
  · rw [List.mem_singleton] at hr
    subst hr
    refine ⟨(hsk.alloc _).grownS hg (fun x hx e => by have := (hblk x hx).1; have := (hlt _ e.symm).2; omega), fun j hj x hx => ?_, fun x hx => by have := hblk x hx; show base ≤ x.block ∧ x.block < _; omega⟩
    obtain rfl := h9 j hj
    have hb := hblk x hx
    rcases hat with h | h
    · have := (hlt _ h).2; omega
    · simp at h; omega
/-- The worths of papers to readers. -/
def worthsL (l : List Topic) (ps : List Paper) (rs : List Reader) (bs : List Mark) : List (List Int) := ps.map (rowL l bs rs)
theorem worthsL_snoc (l : List Topic) {ps : List Paper} (rs : List Reader) (bs : List Mark) {k : Nat} (hk : k < ps.length) : worthsL l (ps.take (k + 1)) rs bs = worthsL l (ps.take k) rs bs ++ [rowL l bs rs ps[k]] := by
  unfold worthsL; rw [List.take_succ_eq_append_getElem hk, List.map_append]; rfl
/-- Rows in memory. -/
def RowsGiven (base : Nat) (w : World) (v : Value) (ls : List (List Int)) : Prop := ∃ rows : List IRow, Own base 22 w v rows ∧ rows.map (·.xs) = ls ∧ ∀ r ∈ rows, RowIn base w v r
theorem RowIn.below {base : Nat} {w w' : World} {u : Value} {r : IRow} (h : RowIn base w u r) (hb : Below w.heap.size w w') : RowIn base w' u r := ⟨h.1.below hb, h.2.1, fun x hx => by have := h.2.2 x hx; have := hb.size; omega⟩
theorem RowsGiven.stp {base S : Nat} {w w' : World} {v : Value} {ls : List (List Int)} (h : RowsGiven base w v ls) (k : Stp S w w') (hS : S < base) : RowsGiven base w' v ls := by
  obtain ⟨rows, h1, h2, h3⟩ := h
  refine ⟨rows, h1.stp k hS, h2, fun r hr => ?_⟩
  obtain ⟨q1, q2, q3⟩ := h3 r hr
  exact ⟨q1.stp k (fun x hx => by have := q3 x hx; omega), q2, fun x hx => by have := q3 x hx; have := k.size; omega⟩
theorem RowsGiven.below {base : Nat} {w w' : World} {v : Value} {ls : List (List Int)} (h : RowsGiven base w v ls) (hb : Below w.heap.size w w') : RowsGiven base w' v ls := by
  obtain ⟨rows, h1, h2, h3⟩ := h
  exact ⟨rows, h1.below hb, h2, fun r hr => (h3 r hr).below hb⟩
/-- Bids without a fault have a pair each. -/
theorem cmpP_lt {x y : Mark} : cmpP x y < 0 ↔ ltS x.1 y.1 ∨ (x.1 = y.1 ∧ ltS x.2.1 y.2.1) := by
  unfold cmpP
  by_cases h : x.1 = y.1
  · have h0 : cmpS x.1 y.1 = 0 := cmpS_zero.2 h
    rw [if_neg (by simp [h0]), cmpS_lt]
    exact ⟨fun k => .inr ⟨h, k⟩, fun k => k.elim (fun e => absurd (h ▸ e) (ltS_irrefl _)) (·.2)⟩
  · have h0 : cmpS x.1 y.1 ≠ 0 := fun e => h (cmpS_zero.1 e)
    rw [if_pos h0, cmpS_lt]
    exact ⟨.inl, fun k => k.elim id (fun e => absurd e.1 h)⟩
theorem cmpP_trans {x y z : Mark} (h1 : cmpP x y < 0) (h2 : cmpP y z < 0) : cmpP x z < 0 := by
  rw [cmpP_lt] at *
  rcases h1 with a | ⟨a, b⟩ <;> rcases h2 with c | ⟨c, d⟩
  · exact .inl (ltS_trans a c)
  · exact .inl (c ▸ a)
  · exact .inl (a ▸ c)
  · exact .inr ⟨a.trans c, ltS_trans b d⟩
theorem bids_lt {bs : List Mark} (h : ∀ k, k < bs.length → badOrd bs k = false) : ∀ (k j : Nat) (hk : k < bs.length) (hj : j < k), cmpP (bs[j]'(by omega)) bs[k] < 0
  | 0, j, hk, hj => absurd hj (by omega)
  | k + 1, j, hk, hj => by
    have hs : cmpP (bs[k]'(by omega)) bs[k + 1] < 0 := by
      have h0 := h (k + 1) hk
      rw [badOrd] at h0
      rw [List.getElem?_eq_getElem (show k < bs.length by omega), List.getElem?_eq_getElem hk] at h0
      simp only [decide_eq_false_iff_not] at h0
      omega
    by_cases hjk : j = k
    · subst hjk; exact hs
    · exact cmpP_trans (bids_lt h k j (by omega) (by omega)) hs
theorem bids_nodup {bs : List Mark} (h : bidsFault bs = 0) : (bs.map keyB2).Nodup := by
  have hl := bids_lt (bs := bs) (fun k hk => bids_ord h hk)
  unfold List.Nodup
  rw [List.pairwise_map, List.pairwise_iff_getElem]
  intro i j hi hj hij e
  have := hl j i hj hij
  rw [cmpP_lt] at this
  unfold keyB2 at e
  simp only [Prod.mk.injEq] at e
  rcases this with a | ⟨_, a⟩
  · rw [e.1] at a; exact ltS_irrefl _ a
  · rw [e.2] at a; exact ltS_irrefl _ a
end Go.Proofs.YtpgofjjcmldhpaaGreatDoor

/-! Worths of the program. -/
namespace Go.Proofs.YtpgofjjcmldhpaaGreatDoor
open Go.RowKit
set_option linter.unusedVariables false
set_option linter.unusedSimpArgs false

theorem field_right {l : List Topic} {ps : List Paper} {rs : List Reader} {bs : List Mark} (h : fieldE l ps rs bs = 0) : forestFault l = 0 ∧ papersFault ps = 0 ∧ firstErr (wantE l ps) ps.length = 0 ∧ readersFault l rs = 0 ∧ bidsFault bs = 0 ∧ bs.all (knownB ps rs) = true := by
  unfold fieldE at h
  by_cases h0 : forestFault l = 0
  · rw [if_neg (by simp [h0])] at h
    unfold fieldX at h
    by_cases h1 : papersFault ps = 0
    · rw [if_neg (by simp [h1])] at h
      by_cases h2 : firstErr (wantE l ps) ps.length = 0
      · rw [if_neg (by simp [h2])] at h
        by_cases h3 : readersFault l rs = 0
        · rw [if_neg (by simp [h3])] at h
          by_cases h4 : bidsFault bs = 0
          · rw [if_neg (by simp [h4])] at h
            by_cases h5 : bs.all (knownB ps rs) = true
            · exact ⟨h0, h1, h2, h3, h4, h5⟩
            · rw [if_neg h5] at h; cases h
          · rw [if_pos h4] at h; exact absurd h h4
        · rw [if_pos h3] at h; exact absurd h h3
      · rw [if_pos h2] at h; exact absurd h h2
    · rw [if_pos h1] at h; exact absurd h h1
  · rw [if_pos h0] at h; exact absurd h h0
theorem readers_right {l : List Topic} {rs : List Reader} (h : readersFault l rs = 0) : ∀ r ∈ rs, skillsFault l r.skills = 0 := by
  intro r hr
  obtain ⟨k, hk, rfl⟩ := List.getElem_of_mem hr
  unfold readersFault at h
  split at h
  · exact absurd h (by decide)
  have h1 := firstErr_all h k hk
  unfold readerE at h1
  rw [List.getElem?_eq_getElem hk] at h1
  simp only at h1
  split at h1
  · exact absurd h1 (by decide)
  split at h1
  · exact absurd h1 (by decide)
  · exact h1
theorem want_right {l : List Topic} {ps : List Paper} (h : firstErr (wantE l ps) ps.length = 0) : ∀ p ∈ ps, wantedFault l p.topics = 0 := by
  intro p hp
  obtain ⟨k, hk, rfl⟩ := List.getElem_of_mem hp
  have h1 := firstErr_all h k hk
  unfold wantE at h1
  rw [List.getElem?_eq_getElem hk] at h1
  exact h1
theorem forest_len {l : List Topic} (h : forestFault l = 0) : l.length ≤ 1000 := by have := (fault_zero h).1; omega

/-- Rows or an error. -/
def GivesRows (er : Int) (ls : List (List Int)) (w : World) (e : Ending) (w' : World) : Prop :=
  Below w.heap.size w w' ∧ ((er ≠ 0 ∧ e = .returned (.tuple #[.slice none 0 0, .int .i64 er])) ∨ (er = 0 ∧ ∃ v, e = .returned (.tuple #[v, .int .i64 0]) ∧ RowsGiven w.heap.size w' v ls))

set_option maxRecDepth 100000 in
set_option maxHeartbeats 8000000 in
theorem worths_any (l : List Topic) (al : Option Addr) (capl : Nat) (ps : List Paper) (pa : Option Addr) (pc : Nat) (rs : List Reader) (ra : Option Addr) (rc : Nat) (bs : List Mark) (ba : Option Addr) (bc : Nat) (w : World) (hE0 : Env w) (hl : SA w al l) (hP : PapersAt w pa ps) (hR : ReadersAt w ra rs) (hB : SA w ba bs)
    (hlen : l.length ≤ 1000000) (hsT : SmallT l) (hpl : ps.length ≤ 1000) (hsm : ∀ p ∈ ps, PSmall p) (hrl : rs.length ≤ 1000) (hrm : ∀ r ∈ rs, RSmall r) (hbl : bs.length ≤ 1000000) (hbm : ∀ x ∈ bs, x.1.size ≤ 1000 ∧ x.2.1.size ≤ 1000) :
    Calls Tryz.prog 21 #[.slice al l.length capl, .slice pa ps.length pc, .slice ra rs.length rc, .slice ba bs.length bc] w (GivesRows (fieldE l ps rs bs) (worthsL l ps rs bs) w) := by
  have HF := Lib.hid (fieldOf_any l al capl ps pa pc rs ra rc bs ba bc w hE0 hl hP hR hB hlen hsT hpl hsm hrl hrm hbl hbm)
  have HRt := Lib.hid (fun h => field_right (l := l) (ps := ps) (rs := rs) (bs := bs) h)
  generalize fieldE l ps rs bs = er at *
  go_enter Tryz.func21, Tryz.ntmps21
  go_wp2_with fail
  refine HF.out.mono ?_
  rintro e W1 ⟨hb1, hcase⟩
  rcases hcase with ⟨hne, rfl⟩ | ⟨h0, xb, rfl, hX⟩
  · have hq : (er != 0) = true := by simpa using hne
    have HNE := Lib.hid hne
    clear hne
    go_wp2_with fail
    go_ret2
    exact ⟨hb1, .inl ⟨HNE.out, rfl⟩⟩
  · subst h0
    obtain ⟨z1, z2, z3, z4, z5, z6⟩ := HRt.out rfl
    have hl1k := forest_len z1
    have HRow := Lib.hid (fun (p : Paper) (hp : p ∈ ps) W (h1 : FieldAt W xb l ps pa pc rs ra rc bs) (h2 : ReadersAt W ra rs) (h3 : SA W p.a2 p.topics) => row_any l xb ps pa pc rs ra rc bs p W h1 h2 h3 hl1k hrl (fun r hr => ⟨hrm r hr, skills_fit z1 (readers_right z4 r hr)⟩) (hsm p hp).1 (wanted_fit z1 (want_right z3 p hp)).1 (wanted_fit z1 (want_right z3 p hp)).2 z5 (bids_nodup z5))
    have hP1 := hP.below hb1
    have hR1 := hR.below hb1
    have hz1 := hb1.size
    have HSn := Lib.hid (fun k hk => worthsL_snoc l (ps := ps) rs bs (k := k) hk)
    have Hfin := Lib.hid (show worthsL l (ps.take ps.length) rs bs = worthsL l ps rs bs by rw [List.take_length])
    have HLn := Lib.hid (fun k (r : List IRow) (h : r.map (·.xs) = worthsL l (ps.take k) rs bs) (hk : k ≤ ps.length) => show r.length = k by have := congrArg List.length h; simp [worthsL] at this; omega)
    clear HF HRt z1 z2 z3 z4 z5 z6 hE0 hl hP hR hB
    go_wp2_with fail
    go_loopg [12, 28] ps.length (fun gk v i wr => ∃ (k : Nat) (rows : List IRow), i = .int .i64 k ∧ k ≤ ps.length ∧ Hid (gk = ps.length - k) ∧ Own W1.heap.size 22 wr v rows ∧ Hid (rows.map (·.xs) = worthsL l (ps.take k) rs bs) ∧ Hid (∀ r ∈ rows, RowIn W1.heap.size wr v r) ∧ Below W1.heap.size W1 wr)
    case atStart => exact ⟨0, [], rfl, by omega, rfl, Own.nil _ _ _, rfl, fun r hr => (by cases hr), Below.refl _ _⟩
    obtain ⟨k, rows, rfl, hk, hgk, hown, hmap, hin, hb⟩ := hrel
    have hzr := hb.size
    have hrl2 := HLn.out k rows hmap.out hk
    by_cases hlt : k < ps.length
    · obtain ⟨pb, poff, ha, c0, c1, c2, c3, c4⟩ := (hP1.below hb).1.paper hlt
      have hrd := hP1.2 ps[k] (List.getElem_mem hlt)
      have Hmap2 := Lib.hid (HSn.out k hlt)
      have HRk := Lib.hid (HRow.out ps[k] (List.getElem_mem hlt))
      have Ha := Lib.hid ha
      rw [ha]
      clear ha
      generalize ps[k] = p at *
      obtain ⟨x1, x2, x3, au, tt, a1, n1, a2, n2⟩ := p
      obtain ⟨hr1, hr2, hr3⟩ := hrd
      unfold encPaper at HRk
      simp only at c0 c1 c2 c3 c4 hr1 hr2 hr3 HRk
      have hB := Box.new wr 86 #[.string x1, .string x2, .string x3, .slice a1 au.length n1, .slice a2 tt.length n2]
      have hba : Below W1.heap.size W1 (wr.alloc (.cells #[.string x1, .string x2, .string x3, .slice a1 au.length n1, .slice a2 tt.length n2] 86)) := by (repeat' (first | exact Below.refl _ _ | assumption | refine Below.setCell ?_ ?_ _ | refine below_drewN ?_ _ | refine Below.drew ?_ | refine Below.alloc ?_ ?_ _ | (with_reducible refine Below.trans ?_ (Below.mono hb ?_)) | (with_reducible refine Below.trans ?_ (Below.mono hb0 ?_)) | (with_reducible refine Below.trans ?_ (Below.mono hb1 ?_)) | (with_reducible refine Below.trans ?_ (Below.mono hb2 ?_)) | (with_reducible refine Below.trans ?_ (Below.mono hb3 ?_)) | (with_reducible refine Below.trans ?_ (Below.mono hb4 ?_)) | (with_reducible refine Below.trans ?_ (Below.mono hb5 ?_)) | (with_reducible refine Below.trans ?_ (Below.mono hb6 ?_)) | (with_reducible refine Below.trans ?_ (Below.mono hb7 ?_)) | (with_reducible refine Below.trans ?_ (Below.mono hb8 ?_)) | (with_reducible refine Below.trans ?_ (Below.mono hb9 ?_)) | (with_reducible refine Below.trans ?_ (Below.mono hb10 ?_)) | (with_reducible refine Below.trans ?_ (Below.mono hb11 ?_)) | (with_reducible refine Below.trans ?_ (Below.mono hb12 ?_)) | (with_reducible refine Below.trans ?_ (Below.mono hb13 ?_)) | (with_reducible refine Below.trans ?_ (Below.mono hb14 ?_)) | (with_reducible refine Below.trans ?_ (Below.mono hb15 ?_)) | omega | (simp; done) | (simp; omega)))
      have hbr : Below wr.heap.size wr (wr.alloc (.cells #[.string x1, .string x2, .string x3, .slice a1 au.length n1, .slice a2 tt.length n2] 86)) := by (repeat' (first | exact Below.refl _ _ | assumption | refine Below.setCell ?_ ?_ _ | refine below_drewN ?_ _ | refine Below.drew ?_ | refine Below.alloc ?_ ?_ _ | (with_reducible refine Below.trans ?_ (Below.mono hb ?_)) | (with_reducible refine Below.trans ?_ (Below.mono hb0 ?_)) | (with_reducible refine Below.trans ?_ (Below.mono hb1 ?_)) | (with_reducible refine Below.trans ?_ (Below.mono hb2 ?_)) | (with_reducible refine Below.trans ?_ (Below.mono hb3 ?_)) | (with_reducible refine Below.trans ?_ (Below.mono hb4 ?_)) | (with_reducible refine Below.trans ?_ (Below.mono hb5 ?_)) | (with_reducible refine Below.trans ?_ (Below.mono hb6 ?_)) | (with_reducible refine Below.trans ?_ (Below.mono hb7 ?_)) | (with_reducible refine Below.trans ?_ (Below.mono hb8 ?_)) | (with_reducible refine Below.trans ?_ (Below.mono hb9 ?_)) | (with_reducible refine Below.trans ?_ (Below.mono hb10 ?_)) | (with_reducible refine Below.trans ?_ (Below.mono hb11 ?_)) | (with_reducible refine Below.trans ?_ (Below.mono hb12 ?_)) | (with_reducible refine Below.trans ?_ (Below.mono hb13 ?_)) | (with_reducible refine Below.trans ?_ (Below.mono hb14 ?_)) | (with_reducible refine Below.trans ?_ (Below.mono hb15 ?_)) | omega | (simp; done) | (simp; omega)))
      have Hrl2 := Lib.hid hrl2
      clear hrl2
      go_wp2_with fail
      refine (HRk.out _ (hX.below hba) (hR1.below hba) (hr2.below hba)).mono ?_
      rintro e w3 ⟨v3, rfl, hown3, hb3⟩
      obtain ⟨xs, hxs⟩ : ∃ xs, rowL l bs rs ⟨x1, x2, x3, au, tt, a1, n1, a2, n2⟩ = xs := ⟨_, rfl⟩
      rw [hxs] at hown3 Hmap2
      clear hxs
      obtain ⟨sa, sc, rfl, hsa2, hbl2, _⟩ := hown3.sa
      have hz3 := hb3.size
      simp at hz3
      have hbr3 := below_next hbr hb3
      have hba3 := below_next hba hb3
      have hbx3 : Below W1.heap.size W1 (w3.alloc (.cells #[.slice sa xs.length sc] 22)) := by (repeat' (first | exact Below.refl _ _ | assumption | refine Below.setCell ?_ ?_ _ | refine below_drewN ?_ _ | refine Below.drew ?_ | refine Below.alloc ?_ ?_ _ | (with_reducible refine Below.trans ?_ (Below.mono hb ?_)) | (with_reducible refine Below.trans ?_ (Below.mono hb0 ?_)) | (with_reducible refine Below.trans ?_ (Below.mono hb1 ?_)) | (with_reducible refine Below.trans ?_ (Below.mono hb2 ?_)) | (with_reducible refine Below.trans ?_ (Below.mono hb3 ?_)) | (with_reducible refine Below.trans ?_ (Below.mono hb4 ?_)) | (with_reducible refine Below.trans ?_ (Below.mono hb5 ?_)) | (with_reducible refine Below.trans ?_ (Below.mono hb6 ?_)) | (with_reducible refine Below.trans ?_ (Below.mono hb7 ?_)) | (with_reducible refine Below.trans ?_ (Below.mono hb8 ?_)) | (with_reducible refine Below.trans ?_ (Below.mono hb9 ?_)) | (with_reducible refine Below.trans ?_ (Below.mono hb10 ?_)) | (with_reducible refine Below.trans ?_ (Below.mono hb11 ?_)) | (with_reducible refine Below.trans ?_ (Below.mono hb12 ?_)) | (with_reducible refine Below.trans ?_ (Below.mono hb13 ?_)) | (with_reducible refine Below.trans ?_ (Below.mono hb14 ?_)) | (with_reducible refine Below.trans ?_ (Below.mono hb15 ?_)) | omega | (simp; done) | (simp; omega)))
      have hbl3 : ∀ x : Addr, sa = some x → wr.heap.size ≤ x.block ∧ x.block < w3.heap.size := fun x hx => by have := hbl2 x hx; simp at this; omega
      have hown1 := ((hown.alloc (.cells #[.string x1, .string x2, .string x3, .slice a1 au.length n1, .slice a2 tt.length n2] 86)).below hb3).alloc (.cells #[.slice sa xs.length sc] 22)
      have hbo := Box.new w3 22 #[.slice sa xs.length sc]
      go_wp2_with (at_builtin; refine wpList_append_lie (α := IRow) rfl _ _ 47 rfl 22 24 (.slice none 0 0) Tryz.underlying47 Tryz.infoIRow rfl _ rows rfl hown1 (⟨xs, sa, sc⟩ : IRow) _ rfl hbo (by have := Hrl2.out; omega) (by have := Hrl2.out; omega) (by simp; omega) ?_; intro g9 cap9 w5 hown5 hg5 hat5)
      have HRn := Lib.hid (rows_step (xc := sc) (n9 := rows.length + 1) (c9 := cap9) hbr3 hsa2 hbl3 hown hg5 hat5 hin.out hzr)
      have hb5 := hbx3.grown hg5 (by simp; omega) (fun j hj => (hown.lt j hj).1)
      rw [Hrl2.out] at hown5 HRn ⊢
      rw [← Ha.out]
      clear hown hown1 hbo hown3
      (try go_wp2_with fail)
      go_roundg (ps.length - (k + 1))
      case measure => have := hgk.out; omega
      case rel => exact ⟨k + 1, rows ++ [⟨xs, sa, sc⟩], by go_num, by omega, rfl, hown5, by show _ = _; rw [List.map_append, Hmap2.out, hmap.out]; rfl, HRn, hb5⟩
    · obtain rfl : k = ps.length := by omega
      have Hm := Lib.hid (hmap.out.trans Hfin.out)
      go_wp2_with fail
      go_ret2
      exact ⟨below_next hb1 hb, .inr ⟨rfl, _, rfl, rows, hown.mono (by omega), Hm.out, fun r hr => ⟨(hin.out r hr).1, (hin.out r hr).2.1, fun x hx => by have := (hin.out r hr).2.2 x hx; omega⟩⟩⟩
end Go.Proofs.YtpgofjjcmldhpaaGreatDoor

/-! Worths of the reference. -/
namespace Go.Proofs.YtpgofjjcmldhpaaGreatDoor
open Go.RowKit
set_option linter.unusedVariables false
set_option linter.unusedSimpArgs false

theorem worth_zero {p q lv : Int} (h1 : rightB p q = true) (h2 : p ≤ q) (h3 : 0 ≤ lv) (h4 : lv ≤ 4) : worthE p q lv = 0 ∧ worthV p q lv = worthN p q lv := by
  have h : worthE p q lv = 0 := by
    unfold worthE
    rw [h1, if_neg (by decide), if_neg (by omega), if_neg (by omega)]
  exact ⟨h, by unfold worthV; rw [if_pos h]⟩
set_option maxRecDepth 100000 in
set_option maxHeartbeats 16000000 in
theorem worthsOf_any (l : List Topic) (al : Option Addr) (capl : Nat) (ps : List Paper) (pa : Option Addr) (pc : Nat) (rs : List Reader) (ra : Option Addr) (rc : Nat) (bs : List Mark) (ba : Option Addr) (bc : Nat) (w : World) (hl : SA w al l) (hP : PapersAt w pa ps) (hR : ReadersAt w ra rs) (hB : SA w ba bs)
    (hpl : ps.length ≤ 1000) (hrl : rs.length ≤ 1000) (hrm : ∀ r ∈ rs, RSmall r) (hbl : bs.length ≤ 1000000) (hz : fieldE l ps rs bs = 0) :
    Calls Tryz.prog 28 #[.slice al l.length capl, .slice pa ps.length pc, .slice ra rs.length rc, .slice ba bs.length bc] w (fun e w' => ∃ v, e = .returned v ∧ RowsGiven w.heap.size w' v (worthsL l ps rs bs) ∧ Below w.heap.size w w') := by
  obtain ⟨z1, z2, z3, z4, z5, z6⟩ := field_right hz
  have hlen := forest_len z1
  have HA := Lib.hid (fun (p : Paper) (hp : p ∈ ps) (r : Reader) (hr : r ∈ rs) W h1 h2 h3 => affinityOf_any l al capl r.skills r.a r.c p.topics p.a2 p.c2 W h1 h2 h3 hlen (by have := (hrm r hr).2; omega) (wanted_fit z1 (want_right z3 p hp)).1 (skills_fit z1 (readers_right z4 r hr)) (wanted_fit z1 (want_right z3 p hp)).2)
  have HQ := Lib.hid (fun (p : Paper) (hp : p ∈ ps) (r : Reader) (hr : r ∈ rs) => aff_right (l := l) (s := r.skills) (ts := p.topics) hlen (skills_fit z1 (readers_right z4 r hr)) (wanted_fit z1 (want_right z3 p hp)).2 (wanted_fit z1 (want_right z3 p hp)).1)
  have HLv := Lib.hid (fun k => lvO_bd z5 k)
  have HSn := Lib.hid (fun k hk => worthsL_snoc l (ps := ps) rs bs (k := k) hk)
  have HRs := Lib.hid (fun (p : Paper) k hk => rowL_snoc l bs (rs := rs) p (k := k) hk)
  have HRl := Lib.hid (fun (p : Paper) k => rowL_length l bs (rs.take k) p)
  have Hfin := Lib.hid (show worthsL l (ps.take ps.length) rs bs = worthsL l ps rs bs by rw [List.take_length])
  have HfinR := Lib.hid (fun (p : Paper) => show rowL l bs (rs.take rs.length) p = rowL l bs rs p by rw [List.take_length])
  have HLn := Lib.hid (fun k (r : List IRow) (h : r.map (·.xs) = worthsL l (ps.take k) rs bs) (hk : k ≤ ps.length) => show r.length = k by have := congrArg List.length h; simp [worthsL] at this; omega)
  clear z1 z2 z3 z4 z5 z6 hz
  go_enter Tryz.func28, Tryz.ntmps28
  go_wp2_with fail
  go_loopg [9, 19] ps.length (fun gk v i wr => ∃ (k : Nat) (rows : List IRow), i = .int .i64 k ∧ k ≤ ps.length ∧ Hid (gk = ps.length - k) ∧ Own w.heap.size 22 wr v rows ∧ Hid (rows.map (·.xs) = worthsL l (ps.take k) rs bs) ∧ Hid (∀ r ∈ rows, RowIn w.heap.size wr v r) ∧ Below w.heap.size w wr)
  case atStart => exact ⟨0, [], rfl, by omega, rfl, Own.nil _ _ _, rfl, fun r hr => (by cases hr), Below.refl _ _⟩
  obtain ⟨k, rows, rfl, hk, hgk, hown, hmap, hin, hb⟩ := hrel
  have hzr := hb.size
  have hrl2 := HLn.out k rows hmap.out hk
  by_cases hlt : k < ps.length
  · obtain ⟨pb, poff, ha, c0, c1, c2, c3, c4⟩ := (hP.below hb).1.paper hlt
    have hrd := hP.2 ps[k] (List.getElem_mem hlt)
    have Hmap2 := Lib.hid (HSn.out k hlt)
    have HAk := Lib.hid (HA.out ps[k] (List.getElem_mem hlt))
    have HQk := Lib.hid (HQ.out ps[k] (List.getElem_mem hlt))
    have HRsk := Lib.hid (HRs.out ps[k])
    have HRlk := Lib.hid (HRl.out ps[k])
    have HfinRk := Lib.hid (HfinR.out ps[k])
    have Ha := Lib.hid ha
    rw [ha]
    clear ha
    generalize ps[k] = p at *
    obtain ⟨x1, x2, x3, au, tt, a1, n1, a2, n2⟩ := p
    obtain ⟨hr1, hr2, hr3⟩ := hrd
    simp only at c0 c1 c2 c3 c4 hr1 hr2 hr3 HAk HQk HRsk
    have hBp := Box.new wr 86 #[.string x1, .string x2, .string x3, .slice a1 au.length n1, .slice a2 tt.length n2]
    have hba : Below w.heap.size w (wr.alloc (.cells #[.string x1, .string x2, .string x3, .slice a1 au.length n1, .slice a2 tt.length n2] 86)) := by (repeat' (first | exact Below.refl _ _ | assumption | refine Below.setCell ?_ ?_ _ | refine below_drewN ?_ _ | refine Below.drew ?_ | refine Below.alloc ?_ ?_ _ | (with_reducible refine Below.trans ?_ (Below.mono hb ?_)) | (with_reducible refine Below.trans ?_ (Below.mono hb0 ?_)) | (with_reducible refine Below.trans ?_ (Below.mono hb1 ?_)) | (with_reducible refine Below.trans ?_ (Below.mono hb2 ?_)) | (with_reducible refine Below.trans ?_ (Below.mono hb3 ?_)) | (with_reducible refine Below.trans ?_ (Below.mono hb4 ?_)) | (with_reducible refine Below.trans ?_ (Below.mono hb5 ?_)) | (with_reducible refine Below.trans ?_ (Below.mono hb6 ?_)) | (with_reducible refine Below.trans ?_ (Below.mono hb7 ?_)) | (with_reducible refine Below.trans ?_ (Below.mono hb8 ?_)) | (with_reducible refine Below.trans ?_ (Below.mono hb9 ?_)) | (with_reducible refine Below.trans ?_ (Below.mono hb10 ?_)) | (with_reducible refine Below.trans ?_ (Below.mono hb11 ?_)) | (with_reducible refine Below.trans ?_ (Below.mono hb12 ?_)) | (with_reducible refine Below.trans ?_ (Below.mono hb13 ?_)) | (with_reducible refine Below.trans ?_ (Below.mono hb14 ?_)) | (with_reducible refine Below.trans ?_ (Below.mono hb15 ?_)) | omega | (simp; done) | (simp; omega)))
    have hbr : Below wr.heap.size wr (wr.alloc (.cells #[.string x1, .string x2, .string x3, .slice a1 au.length n1, .slice a2 tt.length n2] 86)) := by (repeat' (first | exact Below.refl _ _ | assumption | refine Below.setCell ?_ ?_ _ | refine below_drewN ?_ _ | refine Below.drew ?_ | refine Below.alloc ?_ ?_ _ | (with_reducible refine Below.trans ?_ (Below.mono hb ?_)) | (with_reducible refine Below.trans ?_ (Below.mono hb0 ?_)) | (with_reducible refine Below.trans ?_ (Below.mono hb1 ?_)) | (with_reducible refine Below.trans ?_ (Below.mono hb2 ?_)) | (with_reducible refine Below.trans ?_ (Below.mono hb3 ?_)) | (with_reducible refine Below.trans ?_ (Below.mono hb4 ?_)) | (with_reducible refine Below.trans ?_ (Below.mono hb5 ?_)) | (with_reducible refine Below.trans ?_ (Below.mono hb6 ?_)) | (with_reducible refine Below.trans ?_ (Below.mono hb7 ?_)) | (with_reducible refine Below.trans ?_ (Below.mono hb8 ?_)) | (with_reducible refine Below.trans ?_ (Below.mono hb9 ?_)) | (with_reducible refine Below.trans ?_ (Below.mono hb10 ?_)) | (with_reducible refine Below.trans ?_ (Below.mono hb11 ?_)) | (with_reducible refine Below.trans ?_ (Below.mono hb12 ?_)) | (with_reducible refine Below.trans ?_ (Below.mono hb13 ?_)) | (with_reducible refine Below.trans ?_ (Below.mono hb14 ?_)) | (with_reducible refine Below.trans ?_ (Below.mono hb15 ?_)) | omega | (simp; done) | (simp; omega)))
    have Hrl2 := Lib.hid hrl2
    have Hown := Lib.hid hown
    have hzw : wr.heap.size < (wr.alloc (.cells #[.string x1, .string x2, .string x3, .slice a1 au.length n1, .slice a2 tt.length n2] 86)).heap.size := by simp
    clear hrl2 hown
    go_wp2_with fail
    rename World => wo
    generalize hW2 : wo.alloc (.cells #[.string x1, .string x2, .string x3, .slice a1 au.length n1, .slice a2 tt.length n2] 86) = W2 at *
    have HW2 := Lib.hid hW2
    clear hW2
    go_loopg [12, 25] rs.length (fun gj v i wx => ∃ (j : Nat) (acc : List Int), i = .int .i64 j ∧ j ≤ rs.length ∧ Hid (gj = rs.length - j) ∧ Own W2.heap.size 3 wx v acc ∧ Hid (acc = rowL l bs (rs.take j) ⟨x1, x2, x3, au, tt, a1, n1, a2, n2⟩) ∧ Below W2.heap.size W2 wx)
    case atStart => exact ⟨0, [], rfl, by omega, rfl, Own.nil _ _ _, rfl, Below.refl _ _⟩
    obtain ⟨j, acc, rfl, hj, hgj, hownj, hacc, hbx⟩ := hrel
    have hzx := hbx.size
    have hal : acc.length = j := by rw [hacc.out, HRlk.out, List.length_take]; omega
    have hb2 := below_next hba hbx
    by_cases hjl : j < rs.length
    · obtain ⟨qb, qoff, hta, d0, d1⟩ := (hR.below hb2).1.reader hjl
      have hrd := hR.2 rs[j] (List.getElem_mem hjl)
      have HAj := Lib.hid (HAk.out rs[j] (List.getElem_mem hjl))
      have HQj := HQk.out rs[j] (List.getElem_mem hjl)
      have HRj := Lib.hid (HRsk.out j hjl)
      have Hta := Lib.hid hta
      rw [hta]
      clear hta
      generalize rs[j] = r at *
      obtain ⟨y1, y2, y3, y4⟩ := r
      rw [affV_eq] at HAj
      simp only at d0 d1 hrd HAj HQj HRj
      obtain ⟨r1, r2, r3, r4, r5⟩ := HQj
      obtain ⟨v1, v2⟩ := HLv.out (x1, y1)
      obtain ⟨e1, e2⟩ := worth_zero r1 r2 v1 v2
      have HW := Lib.hid (fun W => worthOf_any (affP l y2 tt) (affQ l y2 tt) (lvO bs (x1, y1)) W)
      rw [e1, e2] at HW
      have HLo := Lib.hid (fun W h => levelOf_any bs ba bc x1 y1 W h hbl)
      have hBr := Box.new wr 92 #[.string y1, .slice y3 y2.length y4]
      have hbx3 : Below W2.heap.size W2 (wr.alloc (.cells #[.string y1, .slice y3 y2.length y4] 92)) := by (repeat' (first | exact Below.refl _ _ | assumption | refine Below.setCell ?_ ?_ _ | refine below_drewN ?_ _ | refine Below.drew ?_ | refine Below.alloc ?_ ?_ _ | (with_reducible refine Below.trans ?_ (Below.mono hb ?_)) | (with_reducible refine Below.trans ?_ (Below.mono hb0 ?_)) | (with_reducible refine Below.trans ?_ (Below.mono hb1 ?_)) | (with_reducible refine Below.trans ?_ (Below.mono hb2 ?_)) | (with_reducible refine Below.trans ?_ (Below.mono hb3 ?_)) | (with_reducible refine Below.trans ?_ (Below.mono hb4 ?_)) | (with_reducible refine Below.trans ?_ (Below.mono hb5 ?_)) | (with_reducible refine Below.trans ?_ (Below.mono hb6 ?_)) | (with_reducible refine Below.trans ?_ (Below.mono hb7 ?_)) | (with_reducible refine Below.trans ?_ (Below.mono hb8 ?_)) | (with_reducible refine Below.trans ?_ (Below.mono hb9 ?_)) | (with_reducible refine Below.trans ?_ (Below.mono hb10 ?_)) | (with_reducible refine Below.trans ?_ (Below.mono hb11 ?_)) | (with_reducible refine Below.trans ?_ (Below.mono hb12 ?_)) | (with_reducible refine Below.trans ?_ (Below.mono hb13 ?_)) | (with_reducible refine Below.trans ?_ (Below.mono hb14 ?_)) | (with_reducible refine Below.trans ?_ (Below.mono hb15 ?_)) | omega | (simp; done) | (simp; omega)))
      have hb3 := below_next hba hbx3
      generalize affP l y2 tt = ap at *
      generalize affQ l y2 tt = aq at *
      generalize lvO bs (x1, y1) = lv at *
      generalize worthN ap aq lv = wn at *
      have Hal := Lib.hid hal
      have Hownj := Lib.hid (hownj.alloc (.cells #[.string y1, .slice y3 y2.length y4] 92))
      have HlO := Lib.hid hownj.lt
      have hp0 := (hBp.below hbx3).cell 0
      have hp4 := (hBp.below hbx3).cell 4
      have hq0 := hBr.cell 0
      have hq1 := hBr.cell 1
      clear r1 r2 r3 r4 r5 v1 v2 e1 e2 hownj hal
      go_upto_region 9 with (fail)
      refine wp_region_held_drew (S := (fun wy => wy.cell? ⟨wo.heap.size, 0, none⟩ = some (.string x1) ∧ wy.cell? ⟨wo.heap.size, 4, none⟩ = some (.slice a2 tt.length n2) ∧ wy.cell? ⟨wr.heap.size, 0, none⟩ = some (.string y1) ∧ wy.cell? ⟨wr.heap.size, 1, none⟩ = some (.slice y3 y2.length y4))) (by kernel_rfl) ?hS (fun hHeld => ?_)
      case hS => exact ⟨hp0, hp4, hq0, hq1⟩
      refine rtake (i := 0) (d := (some 30)) (v := ?_) rfl (by kernel_rfl) (by kernel_rfl) (by kernel_rfl) (by kernel_rfl) (fun _ _ _ h => h) (by kernel_rfl) (by assumption) ?_ ?_
      rotate_left 1
      · (intro wI hSI; (try dsimp only at hSI); go_simp; (try with_reducible rfl))
      simp only [Act.put, List.setIfInBounds_toArray, List.set_cons_zero, List.set_cons_succ]
      refine rtake (i := 1) (d := (some 31)) (v := ?_) rfl (by kernel_rfl) (by kernel_rfl) (by kernel_rfl) (by kernel_rfl) (fun _ _ _ h => h) (by kernel_rfl) (by assumption) ?_ ?_
      rotate_left 1
      · (intro wI hSI; (try dsimp only at hSI); go_simp; (try with_reducible rfl))
      simp only [Act.put, List.setIfInBounds_toArray, List.set_cons_zero, List.set_cons_succ]
      refine rtake (i := 2) (d := (some 32)) (v := ?_) rfl (by kernel_rfl) (by kernel_rfl) (by kernel_rfl) (by kernel_rfl) (fun _ _ _ h => h) (by kernel_rfl) (by assumption) ?_ ?_
      rotate_left 1
      · (intro wI hSI; (try dsimp only at hSI); go_simp; (try with_reducible rfl))
      simp only [Act.put, List.setIfInBounds_toArray, List.set_cons_zero, List.set_cons_succ]
      refine rtake (i := 3) (d := (some 33)) (v := ?_) rfl (by kernel_rfl) (by kernel_rfl) (by kernel_rfl) (by kernel_rfl) (fun _ _ _ h => h) (by kernel_rfl) (by assumption) ?_ ?_
      rotate_left 1
      · (intro wI hSI; (try dsimp only at hSI); go_simp; (try with_reducible rfl))
      simp only [Act.put, List.setIfInBounds_toArray, List.set_cons_zero, List.set_cons_succ]
      refine rtake (i := 4) (d := (some 34)) (v := ?_) rfl (by kernel_rfl) (by kernel_rfl) (by kernel_rfl) (by kernel_rfl) (fun _ _ _ h => h) (by kernel_rfl) (by assumption) ?_ ?_
      rotate_left 1
      · (intro wI hSI; (try dsimp only at hSI); go_simp; (try with_reducible rfl))
      simp only [Act.put, List.setIfInBounds_toArray, List.set_cons_zero, List.set_cons_succ]
      refine rtake (i := 6) (d := (some 36)) (v := ?_) rfl (by kernel_rfl) (by kernel_rfl) (by kernel_rfl) (by kernel_rfl) (fun _ _ _ h => h) (by kernel_rfl) (by assumption) ?_ ?_
      rotate_left 1
      · (intro wI hSI; (try dsimp only at hSI); go_simp; (try with_reducible rfl))
      simp only [Act.put, List.setIfInBounds_toArray, List.set_cons_zero, List.set_cons_succ]
      refine rtake (i := 7) (d := (some 37)) (v := ?_) rfl (by kernel_rfl) (by kernel_rfl) (by kernel_rfl) (by kernel_rfl) (fun _ _ _ h => h) (by kernel_rfl) (by assumption) ?_ ?_
      rotate_left 1
      · (intro wI hSI; (try dsimp only at hSI); go_simp; (try with_reducible rfl))
      simp only [Act.put, List.setIfInBounds_toArray, List.set_cons_zero, List.set_cons_succ]
      refine rtake (i := 8) (d := (some 38)) (v := ?_) rfl (by kernel_rfl) (by kernel_rfl) (by kernel_rfl) (by kernel_rfl) (fun _ _ _ h => h) (by kernel_rfl) (by assumption) ?_ ?_
      rotate_left 1
      · (intro wI hSI; (try dsimp only at hSI); go_simp; (try with_reducible rfl))
      simp only [Act.put, List.setIfInBounds_toArray, List.set_cons_zero, List.set_cons_succ]
      refine rtake (i := 9) (d := (some 39)) (v := ?_) rfl (by kernel_rfl) (by kernel_rfl) (by kernel_rfl) (by kernel_rfl) (fun _ _ _ h => h) (by kernel_rfl) (by assumption) ?_ ?_
      rotate_left 1
      · (intro wI hSI; (try dsimp only at hSI); go_simp; (try with_reducible rfl))
      simp only [Act.put, List.setIfInBounds_toArray, List.set_cons_zero, List.set_cons_succ]
      refine rtake (i := 10) (d := (some 40)) (v := ?_) rfl (by kernel_rfl) (by kernel_rfl) (by kernel_rfl) (by kernel_rfl) (fun _ _ _ h => h) (by kernel_rfl) (by assumption) ?_ ?_
      rotate_left 1
      · (intro wI hSI; (try dsimp only at hSI); go_simp; (try with_reducible rfl))
      simp only [Act.put, List.setIfInBounds_toArray, List.set_cons_zero, List.set_cons_succ]
      refine rtake (i := 11) (d := (some 41)) (v := ?_) rfl (by kernel_rfl) (by kernel_rfl) (by kernel_rfl) (by kernel_rfl) (fun _ _ _ h => h) (by kernel_rfl) (by assumption) ?_ ?_
      rotate_left 1
      · (intro wI hSI; (try dsimp only at hSI); go_simp; (try with_reducible rfl))
      simp only [Act.put, List.setIfInBounds_toArray, List.set_cons_zero, List.set_cons_succ]
      refine rcall (i := 5) (d := (some 35)) (by kernel_rfl) rfl (by kernel_rfl) (fun K hK => ?_)
      go_simp
      go_at_call 82; refine (HAj.out _ ((hl.below hb3).drew) ((hrd.below hb3).drew) ((hr2.below hb3).drew)).mono ?_; rintro e w3 ⟨rfl, hb4⟩
      refine hK.out _ _ ?hS (fun hHeld => ?_)
      case hS => exact ⟨cell_later hb4 hHeld.1, cell_later hb4 hHeld.2.1, cell_later hb4 hHeld.2.2.1, cell_later hb4 hHeld.2.2.2⟩
      clear hK K
      simp only [Act.put, List.setIfInBounds_toArray, List.set_cons_zero, List.set_cons_succ]
      refine rcall (i := 12) (d := (some 42)) (by kernel_rfl) rfl (by kernel_rfl) (fun K hK => ?_)
      go_simp
      go_at_call 83; refine (HLo.out _ (((hB.below hb3).drew).below hb4)).mono ?_; rintro e w4 ⟨rfl, hb5⟩
      refine hK.out _ _ ?hS (fun hHeld => ?_)
      case hS => exact ⟨cell_later hb5 hHeld.1, cell_later hb5 hHeld.2.1, cell_later hb5 hHeld.2.2.1, cell_later hb5 hHeld.2.2.2⟩
      clear hK K
      simp only [Act.put, List.setIfInBounds_toArray, List.set_cons_zero, List.set_cons_succ]
      refine rcall (i := 13) (d := (some 43)) (by kernel_rfl) rfl (by kernel_rfl) (fun K hK => ?_)
      go_simp
      go_at_call 14; refine (HW.out _).mono ?_; rintro e w5 ⟨rfl, hb6⟩
      refine hK.out _ _ ?hS (fun hHeld => ?_)
      case hS => exact ⟨cell_later hb6 hHeld.1, cell_later hb6 hHeld.2.1, cell_later hb6 hHeld.2.2.1, cell_later hb6 hHeld.2.2.2⟩
      clear hK K
      simp only [Act.put, List.setIfInBounds_toArray, List.set_cons_zero, List.set_cons_succ]
      refine rtake (i := 14) (d := (some 29)) (v := ?_) rfl (by kernel_rfl) (by kernel_rfl) (by kernel_rfl) (by kernel_rfl) (fun _ _ _ h => h) (by kernel_rfl) (by assumption) ?_ ?_
      rotate_left 1
      · (intro wI hSI; (try dsimp only at hSI); go_simp; (try with_reducible rfl))
      simp only [Act.put, List.setIfInBounds_toArray, List.set_cons_zero, List.set_cons_succ]
      refine rtake (i := 15) (d := (some 44)) (v := ?_) rfl (by kernel_rfl) (by kernel_rfl) (by kernel_rfl) (by kernel_rfl) (fun _ _ _ h => h) (by kernel_rfl) (by assumption) ?_ ?_
      rotate_left 1
      · (intro wI hSI; (try dsimp only at hSI); go_simp; (try with_reducible rfl))
      simp only [Act.put, List.setIfInBounds_toArray, List.set_cons_zero, List.set_cons_succ]
      refine rtake (i := 16) (d := (some 45)) (v := ?_) rfl (by kernel_rfl) (by kernel_rfl) (by kernel_rfl) (by kernel_rfl) (fun _ _ _ h => h) (by kernel_rfl) (by assumption) ?_ ?_
      rotate_left 1
      · (intro wI hSI; (try dsimp only at hSI); go_simp; (try with_reducible rfl))
      simp only [Act.put, List.setIfInBounds_toArray, List.set_cons_zero, List.set_cons_succ]
      refine rtake (i := 17) (d := (some 15)) (v := ?_) rfl (by kernel_rfl) (by kernel_rfl) (by kernel_rfl) (by kernel_rfl) (fun _ _ _ h => h) (by kernel_rfl) (by assumption) ?_ ?_
      rotate_left 1
      · (intro wI hSI; (try dsimp only at hSI); go_simp; (try with_reducible rfl))
      simp only [Act.put, List.setIfInBounds_toArray, List.set_cons_zero, List.set_cons_succ]
      refine rtake (i := 18) (d := (some 16)) (v := ?_) rfl (by kernel_rfl) (by kernel_rfl) (by kernel_rfl) (by kernel_rfl) (fun _ _ _ h => h) (by kernel_rfl) (by assumption) ?_ ?_
      rotate_left 1
      · (intro wI hSI; (try dsimp only at hSI); go_simp; (try with_reducible rfl))
      simp only [Act.put, List.setIfInBounds_toArray, List.set_cons_zero, List.set_cons_succ]
      refine wpAnyH_done (by kernel_rfl) ?_ _
      have hbx5 := below_next (below_next (below_next hbx3.drew hb4) hb5) hb6
      have hz5 := hbx5.size
      have hbxA : Below W2.heap.size W2 (w5.alloc (.cells #[.int .i64 wn] 3)) := by (repeat' (first | exact Below.refl _ _ | assumption | refine Below.setCell ?_ ?_ _ | refine below_drewN ?_ _ | refine Below.drew ?_ | refine Below.alloc ?_ ?_ _ | (with_reducible refine Below.trans ?_ (Below.mono hb ?_)) | (with_reducible refine Below.trans ?_ (Below.mono hb0 ?_)) | (with_reducible refine Below.trans ?_ (Below.mono hb1 ?_)) | (with_reducible refine Below.trans ?_ (Below.mono hb2 ?_)) | (with_reducible refine Below.trans ?_ (Below.mono hb3 ?_)) | (with_reducible refine Below.trans ?_ (Below.mono hb4 ?_)) | (with_reducible refine Below.trans ?_ (Below.mono hb5 ?_)) | (with_reducible refine Below.trans ?_ (Below.mono hb6 ?_)) | (with_reducible refine Below.trans ?_ (Below.mono hb7 ?_)) | (with_reducible refine Below.trans ?_ (Below.mono hb8 ?_)) | (with_reducible refine Below.trans ?_ (Below.mono hb9 ?_)) | (with_reducible refine Below.trans ?_ (Below.mono hb10 ?_)) | (with_reducible refine Below.trans ?_ (Below.mono hb11 ?_)) | (with_reducible refine Below.trans ?_ (Below.mono hb12 ?_)) | (with_reducible refine Below.trans ?_ (Below.mono hb13 ?_)) | (with_reducible refine Below.trans ?_ (Below.mono hb14 ?_)) | (with_reducible refine Below.trans ?_ (Below.mono hb15 ?_)) | omega | (simp; done) | (simp; omega)))
      have hownA := (((Hownj.out.drew.below hb4).below hb5).below hb6).alloc (.cells #[.int .i64 wn] 3)
      have hboA := Box.new w5 3 #[.int .i64 wn]
      clear hHeld hp0 hp4 hq0 hq1 hBr
      go_wp2_with (at_builtin; refine wpList_append_lie (α := Int) rfl _ _ 22 rfl 3 8 (.int .i64 0) Tryz.underlying22 Tryz.infoIntR rfl _ acc rfl hownA wn _ rfl hboA (by have := Hal.out; omega) (by have := Hal.out; omega) (by simp; omega) ?_; intro g9 cap9 w7 hown7 hg7 hat7)
      have hbx7 := hbxA.grown hg7 (by simp; omega) (fun j hj => (HlO.out j hj).1)
      rw [Hal.out] at hown7 ⊢
      rw [← Hta.out]
      (try go_wp2_with fail)
      go_roundg (rs.length - (j + 1))
      case measure => have := hgj.out; omega
      case rel => exact ⟨j + 1, acc ++ [wn], by go_num, by omega, rfl, hown7, by show _ = _; rw [HRj.out, hacc.out], hbx7⟩
    · obtain rfl : j = rs.length := by omega
      have Hx := Lib.hid (hacc.out.trans HfinRk.out)
      clear hal
      obtain ⟨xs, hxs⟩ : ∃ xs, rowL l bs rs ⟨x1, x2, x3, au, tt, a1, n1, a2, n2⟩ = xs := ⟨_, rfl⟩
      rw [hxs] at Hx Hmap2
      clear hxs
      have hax : acc = xs := Hx.out
      subst hax
      obtain ⟨sa, sc, rfl, hsa2, hbl2, _⟩ := hownj.sa
      have hbr3 := below_next hbr hbx
      have hbx3 : Below w.heap.size w (wr.alloc (.cells #[.slice sa acc.length sc] 22)) := by (repeat' (first | exact Below.refl _ _ | assumption | refine Below.setCell ?_ ?_ _ | refine below_drewN ?_ _ | refine Below.drew ?_ | refine Below.alloc ?_ ?_ _ | (with_reducible refine Below.trans ?_ (Below.mono hb ?_)) | (with_reducible refine Below.trans ?_ (Below.mono hb0 ?_)) | (with_reducible refine Below.trans ?_ (Below.mono hb1 ?_)) | (with_reducible refine Below.trans ?_ (Below.mono hb2 ?_)) | (with_reducible refine Below.trans ?_ (Below.mono hb3 ?_)) | (with_reducible refine Below.trans ?_ (Below.mono hb4 ?_)) | (with_reducible refine Below.trans ?_ (Below.mono hb5 ?_)) | (with_reducible refine Below.trans ?_ (Below.mono hb6 ?_)) | (with_reducible refine Below.trans ?_ (Below.mono hb7 ?_)) | (with_reducible refine Below.trans ?_ (Below.mono hb8 ?_)) | (with_reducible refine Below.trans ?_ (Below.mono hb9 ?_)) | (with_reducible refine Below.trans ?_ (Below.mono hb10 ?_)) | (with_reducible refine Below.trans ?_ (Below.mono hb11 ?_)) | (with_reducible refine Below.trans ?_ (Below.mono hb12 ?_)) | (with_reducible refine Below.trans ?_ (Below.mono hb13 ?_)) | (with_reducible refine Below.trans ?_ (Below.mono hb14 ?_)) | (with_reducible refine Below.trans ?_ (Below.mono hb15 ?_)) | omega | (simp; done) | (simp; omega)))
      have hbl3 : ∀ x : Addr, sa = some x → wo.heap.size ≤ x.block ∧ x.block < wr.heap.size := fun x hx => by have := hbl2 x hx; omega
      have hown1 := (Hown.out.below hbr3).alloc (.cells #[.slice sa acc.length sc] 22)
      have hbo := Box.new wr 22 #[.slice sa acc.length sc]
      go_wp2_with (at_builtin; refine wpList_append_lie (α := IRow) rfl _ _ 47 rfl 22 24 (.slice none 0 0) Tryz.underlying47 Tryz.infoIRow rfl _ rows rfl hown1 (⟨acc, sa, sc⟩ : IRow) _ rfl hbo (by have := Hrl2.out; omega) (by have := Hrl2.out; omega) (by simp; omega) ?_; intro g9 cap9 w5 hown5 hg5 hat5)
      have HRn := Lib.hid (rows_step (xc := sc) (n9 := rows.length + 1) (c9 := cap9) hbr3 hsa2 hbl3 Hown.out hg5 hat5 hin.out hzr)
      have hb5 := hbx3.grown hg5 (by simp; omega) (fun j hj => (Hown.out.lt j hj).1)
      rw [Hrl2.out] at hown5 HRn ⊢
      rw [← Ha.out]
      (try go_wp2_with fail)
      go_roundg (ps.length - (k + 1))
      case measure => have := hgk.out; omega
      case rel => exact ⟨k + 1, rows ++ [⟨acc, sa, sc⟩], by go_num, by omega, rfl, hown5, by show _ = _; rw [List.map_append, Hmap2.out, hmap.out]; rfl, HRn, hb5⟩
  · obtain rfl : k = ps.length := by omega
    have Hm := Lib.hid (hmap.out.trans Hfin.out)
    go_wp2_with fail
    go_ret
    exact ⟨_, rfl, ⟨rows, hown, Hm.out, hin.out⟩, hb⟩
end Go.Proofs.YtpgofjjcmldhpaaGreatDoor
