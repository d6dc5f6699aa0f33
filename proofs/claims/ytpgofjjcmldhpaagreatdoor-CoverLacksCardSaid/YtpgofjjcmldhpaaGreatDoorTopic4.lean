/- known, Above, Below, Meet and Near of the program. -/
import Derived.Test.YtpgofjjcmldhpaaGreatDoorTopic3
import Derived.Test.YtpgofjjcmldhpaaGreatDoorForest
namespace Go.Proofs.YtpgofjjcmldhpaaGreatDoor
open Go.RowKit
set_option linter.unusedVariables false

theorem FMap.below {w w' : World} {b : Nat} {l : List Topic} {i : Nat} (h : FMap w b l i) (hb : Below w.heap.size w w') : FMap w' b l i := h.stp hb
theorem FMap.alloc {w : World} {b : Nat} {l : List Topic} {i : Nat} (h : FMap w b l i) (o : Obj) : FMap (w.alloc o) b l i := h.stp ((Below.refl _ _).alloc (Nat.le_refl _) o)

theorem mget_mem {es : List (ByteArray × Value)} {k : ByteArray} {v : Value} (h : mget es k = some v) : (k, v) ∈ es := by
  induction es with
  | nil => cases h
  | cons p r ih =>
    rw [mget] at h
    by_cases hk : p.1 = k
    · rw [if_pos hk] at h
      cases h
      subst hk
      simp
    · rw [if_neg hk] at h
      exact List.mem_cons_of_mem _ (ih h)
theorem mget_none {es : List (ByteArray × Value)} {k : ByteArray} (h : mget es k = none) : ∀ p ∈ es, p.1 ≠ k := by
  induction es with
  | nil => simp
  | cons p r ih =>
    rw [mget] at h
    by_cases hk : p.1 = k
    · rw [if_pos hk] at h; cases h
    · rw [if_neg hk] at h
      intro q hq
      rcases List.mem_cons.1 hq with rfl | hq
      · exact hk
      · exact ih h q hq

/-- Looking up a key in the map of a forest. -/
theorem FMap.look {w : World} {b : Nat} {l : List Topic} (h : FMap w b l l.length) (k : ByteArray) :
    ∃ v, Rds w v (ab l k) ∧ (Instr.lookup 109 (.map (some b)) (.string k) false).run Tryz.prog w = .ok v w ∧
      (Instr.lookup 109 (.map (some b)) (.string k) true).run Tryz.prog w = .ok (.tuple #[v, .bool (ForestPure.topicOf l k).isSome]) w := by
  obtain ⟨es, h1, h2, h3⟩ := h
  rw [List.take_length] at h2
  refine ⟨(mget es k).getD (.slice none 0 0), ?_, MBox.look h1 Tryz.underlying109 Tryz.underlying9 _ Tryz.zeroStrings k false, ?_⟩
  · cases hg : mget es k with
    | some v => exact h3 (k, v) (mget_mem hg)
    | none =>
      have hn : ForestPure.topicOf l k = none := ForestPure.topicOf_none.2 fun t ht he => by
        have hm : k ∈ es.map (·.1) := by rw [h2, ← he]; exact List.mem_map_of_mem ht
        obtain ⟨p, hp, h4⟩ := List.mem_map.1 hm
        exact mget_none hg p hp h4
      have : ab l k = [] := by unfold ab; rw [ForestPure.aboveN, hn]
      rw [this]
      exact ⟨none, 0, rfl, .inl rfl, Nat.le_refl _⟩
  · rw [MBox.look h1 Tryz.underlying109 Tryz.underlying9 _ Tryz.zeroStrings k true]
    unfold looked
    have : (mget es k).isSome = (ForestPure.topicOf l k).isSome := by
      cases hg : mget es k with
      | some v =>
        have hm : k ∈ l.map (·.1) := by rw [← h2]; exact List.mem_map_of_mem (f := (·.1)) (mget_mem hg)
        obtain ⟨t, ht, h4⟩ := List.mem_map.1 hm
        obtain ⟨t', ht'⟩ := ForestPure.topicOf_isSome (l := l) (k := k) ⟨t, ht, h4⟩
        rw [ht']; rfl
      | none =>
        have hn : ForestPure.topicOf l k = none := ForestPure.topicOf_none.2 fun t ht he => by
          have hm : k ∈ es.map (·.1) := by rw [h2, ← he]; exact List.mem_map_of_mem ht
          obtain ⟨p, hp, h4⟩ := List.mem_map.1 hm
          exact mget_none hg p hp h4
        rw [hn]; rfl
    simp [this]

set_option maxHeartbeats 1000000 in
theorem has_any (l : List Topic) (b : Nat) (k : ByteArray) (w : World) (hF : FMap w b l l.length) :
    Calls Tryz.prog 136 #[.map (some b), .string k] w (fun e w' => e = .returned (.bool (ForestPure.topicOf l k).isSome) ∧ w = w') := by
  obtain ⟨v, _, _, hrun⟩ := hF.look k
  go_enter Tryz.func136, Tryz.ntmps136
  go_wp2_with fail
  go_ret
  exact ⟨rfl, rfl⟩

/-- The error of known. -/
def knownE (l : List Topic) (ks : List ByteArray) : Int :=
  if forestFault l ≠ 0 then forestFault l else if ks.any (fun k => (ForestPure.topicOf l k).isNone) then 8 else 0
def GivesKnown (l : List Topic) (ks : List ByteArray) (w : World) (e : Ending) (w' : World) : Prop :=
  Below w.heap.size w w' ∧ ((knownE l ks ≠ 0 ∧ e = .returned (.tuple #[.map none, .int .i64 (knownE l ks)])) ∨
    (knownE l ks = 0 ∧ ∃ b, e = .returned (.tuple #[.map (some b), .int .i64 0]) ∧ FMap w' b l l.length))

set_option maxRecDepth 100000 in
set_option maxHeartbeats 4000000 in
theorem meet_any (l : List Topic) (b : Nat) (p q : ByteArray) (w : World) (hF : FMap w b l l.length) (hlen : l.length ≤ 1000000) :
    Calls Tryz.prog 146 #[.map (some b), .string p, .string q] w (fun e w' => e = .returned (.string (meetS l p q)) ∧ w = w') := by
  obtain ⟨v1, ⟨a1, cap1, rfl, hsa1, hc1⟩, hrun1, _⟩ := hF.look p
  obtain ⟨v2, ⟨a2, cap2, rfl, hsa2, hc2⟩, hrun2, _⟩ := hF.look q
  have hm : meetS l p q = ((ab l p).find? (fun x => hasS (ab l q) x)).getD ⟨#[]⟩ := rfl
  have hlp := ab_length l p
  have hlq := ab_length l q
  rw [hm]
  clear hm
  generalize ab l p = rp at *
  generalize ab l q = rq at *
  go_enter Tryz.func146, Tryz.ntmps146
  go_wp2_with fail
  go_loopg [13] rp.length (fun gk i wr => ∃ k : Nat, i = .int .i64 k ∧ k ≤ rp.length ∧ Hid (gk = rp.length - k) ∧ Hid (∀ j, (hj : j < rp.length) → j < k → hasS rq rp[j] = false) ∧ wr = w)
  case atStart => exact ⟨0, rfl, by omega, rfl, fun j _ hj => by omega, rfl⟩
  case round =>
    obtain ⟨k, rfl, hk, hgk, hf, rfl⟩ := hrel
    by_cases hlt : k < rp.length
    · obtain ⟨b', off, ha, c0⟩ := hsa1.str hlt
      rw [ha]
      have hone : hasS rq rp[k] = true → ((rp.find? (fun x => hasS rq x)).getD ⟨#[]⟩) = rp[k] := fun h => by
        rw [meet_drop rp hlt (fun j hj => hf.out j (by omega) hj) h]; rfl
      have hno : hasS rq rp[k] = false → ∀ j, (hj : j < rp.length) → j < k + 1 → hasS rq rp[j] = false := fun h j hj hjk => by
        by_cases e : j = k
        · subst e; exact h
        · exact hf.out j hj (by omega)
      have Hone := Lib.hid hone
      have Hno := Lib.hid hno
      clear hone hno
      generalize rp[k] = x at *
      have HC := Lib.hid (contains_any rq a2 cap2 x wr hsa2 (by omega))
      cases hh : hasS rq x
      · have hh' : rq.any (fun y => decide (y = x)) = false := hh
        rw [hh'] at HC
        have Hn := Lib.hid (Hno.out hh)
        clear hh hh'
        go_wp2_with fail
        refine HC.out.mono ?_
        rintro e w3 ⟨rfl, rfl⟩
        go_wp2_with fail
        rw [← ha]
        go_roundg (rp.length - (k + 1))
        case measure => have := hgk.out; omega
        case rel => exact ⟨k + 1, by go_num, by omega, rfl, Hn.out, rfl⟩
      · have hh' : rq.any (fun y => decide (y = x)) = true := hh
        rw [hh'] at HC
        have Hn := Lib.hid (Hone.out hh)
        clear hh hh'
        go_wp2_with fail
        refine HC.out.mono ?_
        rintro e w3 ⟨rfl, rfl⟩
        go_wp2_with fail
        go_ret
        exact ⟨by rw [Hn.out]; rfl, rfl⟩
    · obtain rfl : k = rp.length := by omega
      have hfin : ((rp.find? (fun x => hasS rq x)).getD ⟨#[]⟩) = (⟨#[]⟩ : ByteArray) := by
        rw [List.find?_eq_none.2 (fun x hx => by obtain ⟨j, hj, rfl⟩ := List.mem_iff_getElem.1 hx; rw [hf.out j hj hj]; simp)]; rfl
      have Hfin := Lib.hid hfin
      clear hfin hgk
      go_wp2_with fail
      go_ret
      exact ⟨by rw [Hfin.out]; rfl, rfl⟩

theorem zero_any (w : World) : Calls Tryz.prog 121 #[] w (Gives (.agg #[.int .i64 0, .int .i64 1]) w) := by
  go_enter Tryz.func121, Tryz.ntmps121
  go_wp2_with fail
  refine bodyPost_ret (v := .agg #[.int .i64 0, .int .i64 1]) (by simp only [results, Tryz.results121]; go_simp) rfl ⟨rfl, ?_⟩
  (repeat' (first | exact Below.refl _ _ | assumption | refine Below.setCell ?_ ?_ _ | refine below_drewN ?_ _ | refine Below.drew ?_ | refine Below.alloc ?_ ?_ _ | (with_reducible refine Below.trans ?_ (Below.mono hb ?_)) | (with_reducible refine Below.trans ?_ (Below.mono hb0 ?_)) | (with_reducible refine Below.trans ?_ (Below.mono hb1 ?_)) | (with_reducible refine Below.trans ?_ (Below.mono hb2 ?_)) | (with_reducible refine Below.trans ?_ (Below.mono hb3 ?_)) | (with_reducible refine Below.trans ?_ (Below.mono hb4 ?_)) | (with_reducible refine Below.trans ?_ (Below.mono hb5 ?_)) | (with_reducible refine Below.trans ?_ (Below.mono hb6 ?_)) | (with_reducible refine Below.trans ?_ (Below.mono hb7 ?_)) | (with_reducible refine Below.trans ?_ (Below.mono hb8 ?_)) | (with_reducible refine Below.trans ?_ (Below.mono hb9 ?_)) | (with_reducible refine Below.trans ?_ (Below.mono hb10 ?_)) | (with_reducible refine Below.trans ?_ (Below.mono hb11 ?_)) | (with_reducible refine Below.trans ?_ (Below.mono hb12 ?_)) | (with_reducible refine Below.trans ?_ (Below.mono hb13 ?_)) | (with_reducible refine Below.trans ?_ (Below.mono hb14 ?_)) | (with_reducible refine Below.trans ?_ (Below.mono hb15 ?_)) | omega | (simp; done) | (simp; omega)))

set_option maxRecDepth 100000 in
set_option maxHeartbeats 4000000 in
theorem near_any (l : List Topic) (b : Nat) (p q : ByteArray) (w : World) (hF : FMap w b l l.length) (hlen : l.length ≤ 1000000) (hp : 1 ≤ (ab l p).length) :
    Calls Tryz.prog 122 #[.map (some b), .string p, .string q] w (Gives (nearV l p q) w) := by
  have hFa := hF.alloc (.cells #[.int .i64 0, .int .i64 0] 37)
  have HM := Lib.hid (meet_any l b p q _ hFa hlen)
  by_cases he : meetS l p q = ⟨#[]⟩
  · have hv : nearV l p q = .agg #[.int .i64 0, .int .i64 1] := by unfold nearV; rw [if_pos he]
    rw [hv]
    rw [he] at HM
    clear hv he
    go_enter Tryz.func122, Tryz.ntmps122
    go_wp2_with fail
    refine HM.out.mono ?_
    rintro e w1 ⟨rfl, rfl⟩
    go_wp2_with fail
    refine (zero_any _).mono ?_
    rintro e w1 ⟨rfl, hb1⟩
    have hR := (Box.new w 37 #[.int .i64 0, .int .i64 0]).below hb1
    have hR_l := hR.lt; have hR_0 := hR.cell 0; have hR_1 := hR.cell 1; simp at hR_0 hR_1
    have hR_f0 := hR.frozen 0; have hR_f1 := hR.frozen 1
    go_wp2_with fail
    refine bodyPost_ret (v := .agg #[.int .i64 0, .int .i64 1]) (by simp only [results, Tryz.results122]; go_simp) rfl ⟨rfl, ?_⟩
    have hz1 := hb1.size
    (repeat' (first | exact Below.refl _ _ | assumption | refine Below.setCell ?_ ?_ _ | refine below_drewN ?_ _ | refine Below.drew ?_ | refine Below.alloc ?_ ?_ _ | (with_reducible refine Below.trans ?_ (Below.mono hb ?_)) | (with_reducible refine Below.trans ?_ (Below.mono hb0 ?_)) | (with_reducible refine Below.trans ?_ (Below.mono hb1 ?_)) | (with_reducible refine Below.trans ?_ (Below.mono hb2 ?_)) | (with_reducible refine Below.trans ?_ (Below.mono hb3 ?_)) | (with_reducible refine Below.trans ?_ (Below.mono hb4 ?_)) | (with_reducible refine Below.trans ?_ (Below.mono hb5 ?_)) | (with_reducible refine Below.trans ?_ (Below.mono hb6 ?_)) | (with_reducible refine Below.trans ?_ (Below.mono hb7 ?_)) | (with_reducible refine Below.trans ?_ (Below.mono hb8 ?_)) | (with_reducible refine Below.trans ?_ (Below.mono hb9 ?_)) | (with_reducible refine Below.trans ?_ (Below.mono hb10 ?_)) | (with_reducible refine Below.trans ?_ (Below.mono hb11 ?_)) | (with_reducible refine Below.trans ?_ (Below.mono hb12 ?_)) | (with_reducible refine Below.trans ?_ (Below.mono hb13 ?_)) | (with_reducible refine Below.trans ?_ (Below.mono hb14 ?_)) | (with_reducible refine Below.trans ?_ (Below.mono hb15 ?_)) | omega | (simp; done) | (simp; omega)))
  · have hv : nearV l p q = low (2 * (ab l (meetS l p q)).length) ((ab l p).length + (ab l q).length) := by unfold nearV; rw [if_neg he]
    have hq1 : (meetS l p q).toList ≠ [] := fun h => he (toList_empty.1 (List.isEmpty_iff.2 h))
    have hq2 : (meetS l p q).toList.isEmpty = false := by simpa using hq1
    rw [hv]
    obtain ⟨v1, ⟨a1, cap1, rfl, hsa1, hc1⟩, hrun1, _⟩ := hFa.look p
    obtain ⟨v2, ⟨a2, cap2, rfl, hsa2, hc2⟩, hrun2, _⟩ := hFa.look q
    obtain ⟨v3, ⟨a3, cap3, rfl, hsa3, hc3⟩, hrun3, _⟩ := hFa.look (meetS l p q)
    have hlp := ab_length l p
    have hlq := ab_length l q
    have hlm := ab_length l (meetS l p q)
    generalize ab l (meetS l p q) = rm at *
    generalize ab l p = rp at *
    generalize ab l q = rq at *
    generalize meetS l p q = m at *
    have HP := Lib.hid (fun w => lowest_any (2 * (rm.length : Int)) ((rp.length : Int) + rq.length) w (by omega) (by omega) (by omega))
    obtain ⟨n1, n2, hn⟩ : ∃ n1 n2 : Int, low (2 * (rm.length : Int)) ((rp.length : Int) + rq.length) = .agg #[.int .i64 n1, .int .i64 n2] := ⟨_, _, rfl⟩
    rw [hn] at HP
    rw [hn]
    clear hv he hn
    go_enter Tryz.func122, Tryz.ntmps122
    go_wp2_with fail
    refine HM.out.mono ?_
    rintro e w1 ⟨rfl, rfl⟩
    go_wp2_with fail
    refine (HP.out _).mono ?_
    rintro e w5 ⟨rfl, hb5⟩
    have hR := (Box.new w 37 #[.int .i64 0, .int .i64 0]).below hb5
    have hR_l := hR.lt; have hR_0 := hR.cell 0; have hR_1 := hR.cell 1; simp at hR_0 hR_1
    have hR_f0 := hR.frozen 0; have hR_f1 := hR.frozen 1
    go_wp2_with fail
    refine bodyPost_ret (v := .agg #[.int .i64 n1, .int .i64 n2]) (by simp only [results, Tryz.results122]; go_simp) rfl ⟨rfl, ?_⟩
    have hz1 := hb5.size
    (repeat' (first | exact Below.refl _ _ | assumption | refine Below.setCell ?_ ?_ _ | refine below_drewN ?_ _ | refine Below.drew ?_ | refine Below.alloc ?_ ?_ _ | (with_reducible refine Below.trans ?_ (Below.mono hb ?_)) | (with_reducible refine Below.trans ?_ (Below.mono hb0 ?_)) | (with_reducible refine Below.trans ?_ (Below.mono hb1 ?_)) | (with_reducible refine Below.trans ?_ (Below.mono hb2 ?_)) | (with_reducible refine Below.trans ?_ (Below.mono hb3 ?_)) | (with_reducible refine Below.trans ?_ (Below.mono hb4 ?_)) | (with_reducible refine Below.trans ?_ (Below.mono hb5 ?_)) | (with_reducible refine Below.trans ?_ (Below.mono hb6 ?_)) | (with_reducible refine Below.trans ?_ (Below.mono hb7 ?_)) | (with_reducible refine Below.trans ?_ (Below.mono hb8 ?_)) | (with_reducible refine Below.trans ?_ (Below.mono hb9 ?_)) | (with_reducible refine Below.trans ?_ (Below.mono hb10 ?_)) | (with_reducible refine Below.trans ?_ (Below.mono hb11 ?_)) | (with_reducible refine Below.trans ?_ (Below.mono hb12 ?_)) | (with_reducible refine Below.trans ?_ (Below.mono hb13 ?_)) | (with_reducible refine Below.trans ?_ (Below.mono hb14 ?_)) | (with_reducible refine Below.trans ?_ (Below.mono hb15 ?_)) | omega | (simp; done) | (simp; omega)))
end Go.Proofs.YtpgofjjcmldhpaaGreatDoor
