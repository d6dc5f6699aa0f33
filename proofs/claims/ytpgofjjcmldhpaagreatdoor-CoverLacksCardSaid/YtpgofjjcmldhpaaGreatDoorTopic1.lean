/- Topics of the reference: topicOf, HasTopic, AboveOf. -/
import Derived.Test.YtpgofjjcmldhpaaGreatDoorList
import Derived.Test.YtpgofjjcmldhpaaGreatDoorArr
import Derived.Test.YtpgofjjcmldhpaaGreatDoorMap
import Derived.Test.YtpgofjjcmldhpaaGreatDoorKey
import Derived.Test.YtpgofjjcmldhpaaGreatDoorForestPure
namespace Go.Proofs.YtpgofjjcmldhpaaGreatDoor
open Go.RowKit
set_option linter.unusedVariables false


/-- A topic: its key, and the one above. -/
abbrev Topic := ByteArray × ByteArray
instance : Cel Topic := ⟨2, fun t => [.string t.1, .string t.2], fun _ => rfl, by decide, by simp [Value.oneCell']⟩

theorem SA.topic {w : World} {a : Option Addr} {l : List Topic} (h : SA w a l) {i : Nat} (hi : i < l.length) :
    ∃ b off, a = some ⟨b, off, none⟩ ∧ w.cell? ⟨b, off + i * 2, none⟩ = some (.string l[i].1) ∧ w.cell? ⟨b, off + i * 2 + 1, none⟩ = some (.string l[i].2) := by
  obtain ⟨b, off, ha, hc⟩ := h.at hi
  exact ⟨b, off, ha, hc 0 (by decide), hc 1 (by decide)⟩

/-- The result of topicOf. -/
def topicV (o : Option Topic) : Value :=
  match o with
  | some t => .tuple #[.agg #[.string t.1, .string t.2], .bool true]
  | none => .tuple #[.agg #[.string ⟨#[]⟩, .string ⟨#[]⟩], .bool false]


set_option maxHeartbeats 1000000 in
theorem topicOf_any (l : List Topic) (a : Option Addr) (cap : Nat) (key : ByteArray) (w : World) (hl : SA w a l) (hlen : l.length ≤ 1000000) :
    Calls Tryz.prog 105 #[.slice a l.length cap, .string key] w (Gives (topicV (ForestPure.topicOf l key)) w) := by
  go_enter Tryz.func105, Tryz.ntmps105
  go_wp2_with fail
  go_loopg [10] l.length (fun gk i wr => ∃ k : Nat, i = .int .i64 k ∧ k ≤ l.length ∧ Hid (gk = l.length - k) ∧ Hid (ForestPure.topicOf l key = (l.drop k).find? (fun t => decide (t.1 = key))) ∧ Below w.heap.size w wr ∧ Box wr w.heap.size 80 #[.string ⟨#[]⟩, .string ⟨#[]⟩])
  case atStart => exact ⟨0, rfl, by omega, rfl, rfl, by (repeat' (first | exact Below.refl _ _ | assumption | refine Below.setCell ?_ ?_ _ | refine below_drewN ?_ _ | refine Below.drew ?_ | refine Below.alloc ?_ ?_ _ | (with_reducible refine Below.trans ?_ (Below.mono hb ?_)) | (with_reducible refine Below.trans ?_ (Below.mono hb0 ?_)) | (with_reducible refine Below.trans ?_ (Below.mono hb1 ?_)) | (with_reducible refine Below.trans ?_ (Below.mono hb2 ?_)) | (with_reducible refine Below.trans ?_ (Below.mono hb3 ?_)) | (with_reducible refine Below.trans ?_ (Below.mono hb4 ?_)) | (with_reducible refine Below.trans ?_ (Below.mono hb5 ?_)) | (with_reducible refine Below.trans ?_ (Below.mono hb6 ?_)) | (with_reducible refine Below.trans ?_ (Below.mono hb7 ?_)) | (with_reducible refine Below.trans ?_ (Below.mono hb8 ?_)) | (with_reducible refine Below.trans ?_ (Below.mono hb9 ?_)) | (with_reducible refine Below.trans ?_ (Below.mono hb10 ?_)) | (with_reducible refine Below.trans ?_ (Below.mono hb11 ?_)) | (with_reducible refine Below.trans ?_ (Below.mono hb12 ?_)) | (with_reducible refine Below.trans ?_ (Below.mono hb13 ?_)) | (with_reducible refine Below.trans ?_ (Below.mono hb14 ?_)) | (with_reducible refine Below.trans ?_ (Below.mono hb15 ?_)) | omega | (simp; done) | (simp; omega))), Box.new _ _ _⟩
  case round =>
    obtain ⟨k, rfl, hk, hgk, hf, hb, hR⟩ := hrel
    by_cases hlt : k < l.length
    · obtain ⟨b, off, ha, c0, c1⟩ := (hl.below hb).topic hlt
      rw [ha]
      generalize hx : l[k] = x at *
      obtain ⟨x1, x2⟩ := x
      by_cases he : x1 = key
      · have hv : topicV (ForestPure.topicOf l key) = .tuple #[.agg #[.string x1, .string x2], .bool true] := by
          rw [hf.out, find_drop_yes _ l k hlt (by rw [hx]; simp [he]), hx]; rfl
        have Hv := Lib.hid hv
        have hq : (x1.toList == key.toList) = true := by rw [beq_iff_eq, he]
        have hR_l := hR.lt; have hR_0 := hR.cell 0; have hR_1 := hR.cell 1; simp at hR_0 hR_1
        have hR_f0 := hR.frozen 0; have hR_f1 := hR.frozen 1
        clear he hx hv hf
        go_wp2_with fail
        refine bodyPost_ret (v := .tuple #[.agg #[.string x1, .string x2], .bool true]) (by simp only [results, Tryz.results105]; go_simp) rfl ⟨by rw [Hv.out], ?_⟩
        have hz := hb.size
        (repeat' (first | exact Below.refl _ _ | assumption | refine Below.setCell ?_ ?_ _ | refine below_drewN ?_ _ | refine Below.drew ?_ | refine Below.alloc ?_ ?_ _ | (with_reducible refine Below.trans ?_ (Below.mono hb ?_)) | (with_reducible refine Below.trans ?_ (Below.mono hb0 ?_)) | (with_reducible refine Below.trans ?_ (Below.mono hb1 ?_)) | (with_reducible refine Below.trans ?_ (Below.mono hb2 ?_)) | (with_reducible refine Below.trans ?_ (Below.mono hb3 ?_)) | (with_reducible refine Below.trans ?_ (Below.mono hb4 ?_)) | (with_reducible refine Below.trans ?_ (Below.mono hb5 ?_)) | (with_reducible refine Below.trans ?_ (Below.mono hb6 ?_)) | (with_reducible refine Below.trans ?_ (Below.mono hb7 ?_)) | (with_reducible refine Below.trans ?_ (Below.mono hb8 ?_)) | (with_reducible refine Below.trans ?_ (Below.mono hb9 ?_)) | (with_reducible refine Below.trans ?_ (Below.mono hb10 ?_)) | (with_reducible refine Below.trans ?_ (Below.mono hb11 ?_)) | (with_reducible refine Below.trans ?_ (Below.mono hb12 ?_)) | (with_reducible refine Below.trans ?_ (Below.mono hb13 ?_)) | (with_reducible refine Below.trans ?_ (Below.mono hb14 ?_)) | (with_reducible refine Below.trans ?_ (Below.mono hb15 ?_)) | omega | (simp; done) | (simp; omega)))
      · have hq : (x1.toList == key.toList) = false := by rw [beq_eq_false_iff_ne]; exact fun h => he (toList_inj.1 h)
        go_wp2_with fail
        rw [← ha]
        go_roundg (l.length - (k + 1))
        case measure => have := hgk.out; omega
        case rel =>
          refine ⟨k + 1, by go_num, by omega, rfl, ?_, ?_, hR.alloc _⟩
          · show _ = _
            rw [hf.out, find_drop _ l k hlt (by rw [hx]; simpa using he)]
          · have hz := hb.size
            (repeat' (first | exact Below.refl _ _ | assumption | refine Below.setCell ?_ ?_ _ | refine below_drewN ?_ _ | refine Below.drew ?_ | refine Below.alloc ?_ ?_ _ | (with_reducible refine Below.trans ?_ (Below.mono hb ?_)) | (with_reducible refine Below.trans ?_ (Below.mono hb0 ?_)) | (with_reducible refine Below.trans ?_ (Below.mono hb1 ?_)) | (with_reducible refine Below.trans ?_ (Below.mono hb2 ?_)) | (with_reducible refine Below.trans ?_ (Below.mono hb3 ?_)) | (with_reducible refine Below.trans ?_ (Below.mono hb4 ?_)) | (with_reducible refine Below.trans ?_ (Below.mono hb5 ?_)) | (with_reducible refine Below.trans ?_ (Below.mono hb6 ?_)) | (with_reducible refine Below.trans ?_ (Below.mono hb7 ?_)) | (with_reducible refine Below.trans ?_ (Below.mono hb8 ?_)) | (with_reducible refine Below.trans ?_ (Below.mono hb9 ?_)) | (with_reducible refine Below.trans ?_ (Below.mono hb10 ?_)) | (with_reducible refine Below.trans ?_ (Below.mono hb11 ?_)) | (with_reducible refine Below.trans ?_ (Below.mono hb12 ?_)) | (with_reducible refine Below.trans ?_ (Below.mono hb13 ?_)) | (with_reducible refine Below.trans ?_ (Below.mono hb14 ?_)) | (with_reducible refine Below.trans ?_ (Below.mono hb15 ?_)) | omega | (simp; done) | (simp; omega)))
    · have hv : topicV (ForestPure.topicOf l key) = .tuple #[.agg #[.string ⟨#[]⟩, .string ⟨#[]⟩], .bool false] := by
        rw [hf.out, List.drop_eq_nil_of_le (by omega)]; rfl
      have Hv := Lib.hid hv
      clear hv hf
      have hR_l := hR.lt; have hR_0 := hR.cell 0; have hR_1 := hR.cell 1; simp at hR_0 hR_1
      have hR_f0 := hR.frozen 0; have hR_f1 := hR.frozen 1
      go_wp2_with fail
      refine bodyPost_ret (v := .tuple #[.agg #[.string ⟨#[]⟩, .string ⟨#[]⟩], .bool false]) (by simp only [results, Tryz.results105]; go_simp) rfl ⟨by rw [Hv.out], ?_⟩
      have hz := hb.size
      (repeat' (first | exact Below.refl _ _ | assumption | refine Below.setCell ?_ ?_ _ | refine below_drewN ?_ _ | refine Below.drew ?_ | refine Below.alloc ?_ ?_ _ | (with_reducible refine Below.trans ?_ (Below.mono hb ?_)) | (with_reducible refine Below.trans ?_ (Below.mono hb0 ?_)) | (with_reducible refine Below.trans ?_ (Below.mono hb1 ?_)) | (with_reducible refine Below.trans ?_ (Below.mono hb2 ?_)) | (with_reducible refine Below.trans ?_ (Below.mono hb3 ?_)) | (with_reducible refine Below.trans ?_ (Below.mono hb4 ?_)) | (with_reducible refine Below.trans ?_ (Below.mono hb5 ?_)) | (with_reducible refine Below.trans ?_ (Below.mono hb6 ?_)) | (with_reducible refine Below.trans ?_ (Below.mono hb7 ?_)) | (with_reducible refine Below.trans ?_ (Below.mono hb8 ?_)) | (with_reducible refine Below.trans ?_ (Below.mono hb9 ?_)) | (with_reducible refine Below.trans ?_ (Below.mono hb10 ?_)) | (with_reducible refine Below.trans ?_ (Below.mono hb11 ?_)) | (with_reducible refine Below.trans ?_ (Below.mono hb12 ?_)) | (with_reducible refine Below.trans ?_ (Below.mono hb13 ?_)) | (with_reducible refine Below.trans ?_ (Below.mono hb14 ?_)) | (with_reducible refine Below.trans ?_ (Below.mono hb15 ?_)) | omega | (simp; done) | (simp; omega)))

set_option maxHeartbeats 1000000 in
theorem hasTopic_any (l : List Topic) (a : Option Addr) (cap : Nat) (key : ByteArray) (w : World) (hl : SA w a l) (hlen : l.length ≤ 1000000) :
    Calls Tryz.prog 58 #[.slice a l.length cap, .string key] w (Gives (.bool (ForestPure.topicOf l key).isSome) w) := by
  have HT := Lib.hid (fun w hl => topicOf_any l a cap key w hl hlen)
  cases ho : ForestPure.topicOf l key with
  | none =>
    rw [ho] at HT
    unfold topicV at HT
    go_enter Tryz.func58, Tryz.ntmps58
    go_wp2_with fail
    refine (HT.out _ hl).mono ?_
    rintro e w1 ⟨rfl, hb⟩
    go_wp2_with fail
    go_ret
    exact ⟨rfl, by have hz := hb.size; (repeat' (first | exact Below.refl _ _ | assumption | refine Below.setCell ?_ ?_ _ | refine below_drewN ?_ _ | refine Below.drew ?_ | refine Below.alloc ?_ ?_ _ | (with_reducible refine Below.trans ?_ (Below.mono hb ?_)) | (with_reducible refine Below.trans ?_ (Below.mono hb0 ?_)) | (with_reducible refine Below.trans ?_ (Below.mono hb1 ?_)) | (with_reducible refine Below.trans ?_ (Below.mono hb2 ?_)) | (with_reducible refine Below.trans ?_ (Below.mono hb3 ?_)) | (with_reducible refine Below.trans ?_ (Below.mono hb4 ?_)) | (with_reducible refine Below.trans ?_ (Below.mono hb5 ?_)) | (with_reducible refine Below.trans ?_ (Below.mono hb6 ?_)) | (with_reducible refine Below.trans ?_ (Below.mono hb7 ?_)) | (with_reducible refine Below.trans ?_ (Below.mono hb8 ?_)) | (with_reducible refine Below.trans ?_ (Below.mono hb9 ?_)) | (with_reducible refine Below.trans ?_ (Below.mono hb10 ?_)) | (with_reducible refine Below.trans ?_ (Below.mono hb11 ?_)) | (with_reducible refine Below.trans ?_ (Below.mono hb12 ?_)) | (with_reducible refine Below.trans ?_ (Below.mono hb13 ?_)) | (with_reducible refine Below.trans ?_ (Below.mono hb14 ?_)) | (with_reducible refine Below.trans ?_ (Below.mono hb15 ?_)) | omega | (simp; done) | (simp; omega)))⟩
  | some t =>
    rw [ho] at HT
    unfold topicV at HT
    go_enter Tryz.func58, Tryz.ntmps58
    go_wp2_with fail
    refine (HT.out _ hl).mono ?_
    rintro e w1 ⟨rfl, hb⟩
    go_wp2_with fail
    go_ret
    exact ⟨rfl, by have hz := hb.size; (repeat' (first | exact Below.refl _ _ | assumption | refine Below.setCell ?_ ?_ _ | refine below_drewN ?_ _ | refine Below.drew ?_ | refine Below.alloc ?_ ?_ _ | (with_reducible refine Below.trans ?_ (Below.mono hb ?_)) | (with_reducible refine Below.trans ?_ (Below.mono hb0 ?_)) | (with_reducible refine Below.trans ?_ (Below.mono hb1 ?_)) | (with_reducible refine Below.trans ?_ (Below.mono hb2 ?_)) | (with_reducible refine Below.trans ?_ (Below.mono hb3 ?_)) | (with_reducible refine Below.trans ?_ (Below.mono hb4 ?_)) | (with_reducible refine Below.trans ?_ (Below.mono hb5 ?_)) | (with_reducible refine Below.trans ?_ (Below.mono hb6 ?_)) | (with_reducible refine Below.trans ?_ (Below.mono hb7 ?_)) | (with_reducible refine Below.trans ?_ (Below.mono hb8 ?_)) | (with_reducible refine Below.trans ?_ (Below.mono hb9 ?_)) | (with_reducible refine Below.trans ?_ (Below.mono hb10 ?_)) | (with_reducible refine Below.trans ?_ (Below.mono hb11 ?_)) | (with_reducible refine Below.trans ?_ (Below.mono hb12 ?_)) | (with_reducible refine Below.trans ?_ (Below.mono hb13 ?_)) | (with_reducible refine Below.trans ?_ (Below.mono hb14 ?_)) | (with_reducible refine Below.trans ?_ (Below.mono hb15 ?_)) | omega | (simp; done) | (simp; omega)))⟩


theorem aboveN_length {K : Type} [DecidableEq K] (l : List (K × K)) (n : Nat) (k : K) : (ForestPure.aboveN l n k).length ≤ n := by
  induction n generalizing k with
  | zero => simp [ForestPure.aboveN]
  | succ n ih =>
    unfold ForestPure.aboveN
    split
    · simp
    · rename_i t _; simp; exact ih t.2

set_option maxRecDepth 100000 in
set_option maxHeartbeats 2000000 in
theorem aboveOf_any (l : List Topic) (a : Option Addr) (cap : Nat) (key : ByteArray) (w : World) (hl : SA w a l) (hlen : l.length ≤ 1000000) :
    Calls Tryz.prog 60 #[.slice a l.length cap, .string key] w (GivesOwn 9 (ForestPure.aboveN l (l.length + 1) key) w) := by
  go_enter Tryz.func60, Tryz.ntmps60
  go_wp2_with fail
  go_loopg [1, 5, 11] (l.length + 1) (fun gk s v i wr => ∃ (k : Nat) (key' : ByteArray) (acc : List ByteArray), i = .int .i64 k ∧ s = .string key' ∧ k ≤ l.length + 1 ∧ Hid (gk = l.length + 1 - k) ∧ Hid (ForestPure.aboveN l (l.length + 1) key = acc ++ ForestPure.aboveN l (l.length + 1 - k) key') ∧ Hid (acc.length = k) ∧ Own w.heap.size 9 wr v acc ∧ Below w.heap.size w wr)
  case atStart => exact ⟨0, key, [], rfl, rfl, by omega, rfl, rfl, rfl, Own.nil _ _ _, Below.refl _ _⟩
  case round =>
    obtain ⟨k, key', acc, rfl, rfl, hk, hgk, hf, hacc, hown, hb⟩ := hrel
    by_cases hlt : k < l.length + 1
    · have HT := Lib.hid (topicOf_any l a cap key' wr (hl.below hb) hlen)
      cases ho : ForestPure.topicOf l key' with
      | none =>
        rw [ho] at HT
        unfold topicV at HT
        have hfin : ForestPure.aboveN l (l.length + 1) key = acc := by
          rw [hf.out, show l.length + 1 - k = (l.length - k) + 1 from by omega, ForestPure.aboveN, ho]; simp
        have Hfin := Lib.hid hfin
        clear hfin
        go_wp2_with fail
        refine HT.out.mono ?_
        rintro e w1 ⟨rfl, hb1⟩
        go_wp2_with fail
        go_ret
        refine ⟨_, rfl, ?_, ?_⟩
        · rw [Hfin.out]; exact (hown.below hb1).alloc _
        · have hz := hb.size
          have hz1 := hb1.size
          (repeat' (first | exact Below.refl _ _ | assumption | refine Below.setCell ?_ ?_ _ | refine below_drewN ?_ _ | refine Below.drew ?_ | refine Below.alloc ?_ ?_ _ | (with_reducible refine Below.trans ?_ (Below.mono hb ?_)) | (with_reducible refine Below.trans ?_ (Below.mono hb0 ?_)) | (with_reducible refine Below.trans ?_ (Below.mono hb1 ?_)) | (with_reducible refine Below.trans ?_ (Below.mono hb2 ?_)) | (with_reducible refine Below.trans ?_ (Below.mono hb3 ?_)) | (with_reducible refine Below.trans ?_ (Below.mono hb4 ?_)) | (with_reducible refine Below.trans ?_ (Below.mono hb5 ?_)) | (with_reducible refine Below.trans ?_ (Below.mono hb6 ?_)) | (with_reducible refine Below.trans ?_ (Below.mono hb7 ?_)) | (with_reducible refine Below.trans ?_ (Below.mono hb8 ?_)) | (with_reducible refine Below.trans ?_ (Below.mono hb9 ?_)) | (with_reducible refine Below.trans ?_ (Below.mono hb10 ?_)) | (with_reducible refine Below.trans ?_ (Below.mono hb11 ?_)) | (with_reducible refine Below.trans ?_ (Below.mono hb12 ?_)) | (with_reducible refine Below.trans ?_ (Below.mono hb13 ?_)) | (with_reducible refine Below.trans ?_ (Below.mono hb14 ?_)) | (with_reducible refine Below.trans ?_ (Below.mono hb15 ?_)) | omega | (simp; done) | (simp; omega)))
      | some t =>
        obtain ⟨t1, t2⟩ := t
        rw [ho] at HT
        unfold topicV at HT
        have hfin : ForestPure.aboveN l (l.length + 1) key = (acc ++ [key']) ++ ForestPure.aboveN l (l.length + 1 - (k + 1)) t2 := by
          rw [hf.out, show l.length + 1 - k = (l.length - k) + 1 from by omega, ForestPure.aboveN, ho, show l.length + 1 - (k + 1) = l.length - k from by omega]; simp
        have Hfin := Lib.hid hfin
        clear hfin
        go_wp2_with fail
        refine HT.out.mono ?_
        rintro e w1 ⟨rfl, hb1⟩
        have hz := hb.size
        have hz1 := hb1.size
        have hown1 := (hown.below hb1).alloc (.cells #[.string t1, .string t2] 80)
        have hT := Box.new w1 80 #[.string t1, .string t2]
        go_upto_region 7 with (at_builtin; refine wpList_append_one rfl _ _ 52 rfl w.heap.size 9 16 (.string ⟨#[]⟩) Tryz.underlying52 Tryz.infoString rfl _ acc rfl (hown1.alloc _) key' _ rfl (Box.newAt _ _ _ _ ?c0) ?c1 ?c2 ?c3 ?_; rotate_left 4; intro v' w2 hown2 hg2)
        case c0 => simp
        case c1 => have := hacc.out; omega
        case c2 => have := hacc.out; omega
        case c3 => simp; omega
        have hb2 : Below w.heap.size w w2 := Below.grown (w := (w1.alloc (.cells #[.string t1, .string t2] 80)).alloc (.cells #[.string key'] 9)) (by (repeat' (first | exact Below.refl _ _ | assumption | refine Below.setCell ?_ ?_ _ | refine below_drewN ?_ _ | refine Below.drew ?_ | refine Below.alloc ?_ ?_ _ | (with_reducible refine Below.trans ?_ (Below.mono hb ?_)) | (with_reducible refine Below.trans ?_ (Below.mono hb0 ?_)) | (with_reducible refine Below.trans ?_ (Below.mono hb1 ?_)) | (with_reducible refine Below.trans ?_ (Below.mono hb2 ?_)) | (with_reducible refine Below.trans ?_ (Below.mono hb3 ?_)) | (with_reducible refine Below.trans ?_ (Below.mono hb4 ?_)) | (with_reducible refine Below.trans ?_ (Below.mono hb5 ?_)) | (with_reducible refine Below.trans ?_ (Below.mono hb6 ?_)) | (with_reducible refine Below.trans ?_ (Below.mono hb7 ?_)) | (with_reducible refine Below.trans ?_ (Below.mono hb8 ?_)) | (with_reducible refine Below.trans ?_ (Below.mono hb9 ?_)) | (with_reducible refine Below.trans ?_ (Below.mono hb10 ?_)) | (with_reducible refine Below.trans ?_ (Below.mono hb11 ?_)) | (with_reducible refine Below.trans ?_ (Below.mono hb12 ?_)) | (with_reducible refine Below.trans ?_ (Below.mono hb13 ?_)) | (with_reducible refine Below.trans ?_ (Below.mono hb14 ?_)) | (with_reducible refine Below.trans ?_ (Below.mono hb15 ?_)) | omega | (simp; done) | (simp; omega)))) hg2 (by simp; omega) (fun k hk => (hown1.lt k hk).1)
        have hT2 : Box w2 w1.heap.size 80 #[.string t1, .string t2] := (hT.alloc _).same (hg2.block _ (by simp; omega) (fun h => by have := (hown.below hb1).lt _ h.symm; omega))
        have hT2_l := hT2.lt; have hT2_0 := hT2.cell 0; have hT2_1 := hT2.cell 1; simp at hT2_0 hT2_1
        go_wp2_with fail
        go_roundg (l.length + 1 - (k + 1))
        case measure => have := hgk.out; omega
        case rel =>
          exact ⟨k + 1, t2, acc ++ [key'], by go_num, rfl, by omega, rfl, Hfin.out, by show _ = _; rw [List.length_append, hacc.out]; rfl, hown2, hb2⟩
    · have hkk : k = l.length + 1 := by omega
      have hfin : ForestPure.aboveN l (l.length + 1) key = acc := by
        rw [hf.out, hkk, Nat.sub_self, ForestPure.aboveN]; simp
      have Hfin := Lib.hid hfin
      clear hfin hkk
      go_wp2_with fail
      go_ret
      refine ⟨_, rfl, ?_, hb⟩
      rw [Hfin.out]; exact hown
end Go.Proofs.YtpgofjjcmldhpaaGreatDoor
