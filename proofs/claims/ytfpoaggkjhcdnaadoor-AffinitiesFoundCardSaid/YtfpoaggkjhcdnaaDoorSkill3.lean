/- Reasons and affinities: lists of what is known, sums. -/
import Derived.Test.YtfpoaggkjhcdnaaDoorSkillPure
import Derived.Test.YtfpoaggkjhcdnaaDoorReg
import Derived.Deep.RegionWith
namespace Go.Proofs.YtfpoaggkjhcdnaaDoor
open Go.RowKit
set_option linter.unusedVariables false
set_option linter.unusedSimpArgs false

/-- Because: a topic, by which skill, how much. -/
abbrev Bec := ByteArray × Known
instance : Cel Bec := ⟨4, fun t => [.string t.1, .string t.2.1, .int .i64 t.2.2.1, .int .i64 t.2.2.2], fun _ => rfl, by decide, by simp [Value.oneCell']⟩
theorem Tryd.infoBec : (Tryd.prog.info? 60).map (fun i => (i.zero, i.size, i.bytes)) = some (some (.agg #[.string ⟨#[]⟩, .string ⟨#[]⟩, .int .i64 0, .int .i64 0]), 4, 48) := by kernel_rfl
def becs (l : List Topic) (s : List Skill) (ts : List ByteArray) : List Bec := ts.map (fun t => (t, bestOf l s t))
theorem becs_snoc (l : List Topic) (s : List Skill) {ts : List ByteArray} {k : Nat} (hk : k < ts.length) : becs l s (ts.take (k + 1)) = becs l s (ts.take k) ++ [(ts[k], bestOf l s ts[k])] := by
  unfold becs; rw [List.take_succ_eq_append_getElem hk, List.map_append]; rfl
theorem becs_length (l : List Topic) (s : List Skill) (ts : List ByteArray) : (becs l s ts).length = ts.length := by simp [becs]


set_option maxRecDepth 100000 in
set_option maxHeartbeats 4000000 in
theorem becauseOf_any (l : List Topic) (a : Option Addr) (cap : Nat) (s : List Skill) (a2 : Option Addr) (cap2 : Nat) (ts : List ByteArray) (a3 : Option Addr) (cap3 : Nat) (w : World) (hl : SA w a l) (hs : SA w a2 s) (ht : SA w a3 ts) (hlen : l.length ≤ 1000) (hsl : s.length ≤ 1000000) (htl : ts.length ≤ 1000000) (hok : SkillOk l s) :
    Calls Tryd.prog 29 #[.slice a l.length cap, .slice a2 s.length cap2, .slice a3 ts.length cap3] w (GivesOwn 60 (becs l s ts) w) := by
  have HK := Lib.hid (fun t w h1 h2 => knownR_any l a cap s a2 cap2 t w h1 h2 hlen hsl hok)
  go_enter Tryd.func29, Tryd.ntmps29
  go_wp2_with fail
  go_loopg [7, 12] ts.length (fun gk v i wr => ∃ (k : Nat) (acc : List Bec), i = .int .i64 k ∧ k ≤ ts.length ∧ Hid (gk = ts.length - k) ∧ Hid (acc = becs l s (ts.take k)) ∧ Own w.heap.size 60 wr v acc ∧ Below w.heap.size w wr)
  case atStart => exact ⟨0, [], rfl, by omega, rfl, rfl, Own.nil _ _ _, by first | exact Below.refl _ _ | assumption⟩
  case round =>
    obtain ⟨k, acc, rfl, hk, hgk, hacc, hown, hb⟩ := hrel
    have hz := hb.size
    by_cases hlt : k < ts.length
    · obtain ⟨b, off, ha, c0⟩ := (ht.below hb).str hlt
      have Hsn := Lib.hid (becs_snoc l s hlt)
      have hal : acc.length = k := by rw [hacc.out, becs_length, List.length_take]; omega
      have Hal := Lib.hid hal
      rw [ha]
      generalize ts[k] = t at *
      clear hal
      go_wp2_with fail
      refine (HK.out t _ (hl.below hb) (hs.below hb)).mono ?_
      rintro e w1 ⟨rfl, hb1⟩
      have hz1 := hb1.size
      have hown1 := hown.below hb1
      have hb1' := below_next hb hb1
      unfold becV
      generalize bestOf l s t = o at *
      obtain ⟨o1, o2, o3⟩ := o
      simp only at Hsn ⊢
      clear hown hb1 c0
      go_upto_region 6 with (at_builtin; refine wpList_append_one rfl _ _ 51 rfl w.heap.size 60 48 (.agg #[.string ⟨#[]⟩, .string ⟨#[]⟩, .int .i64 0, .int .i64 0]) Tryd.underlying51 Tryd.infoBec rfl _ acc rfl (hown1.alloc _) (t, o1, o2, o3) _ rfl (Box.newAt _ _ _ _ ?c0) ?c1 ?c2 ?c3 ?_; rotate_left 4; intro v' w2 hown2 hg2)
      case c0 => rfl
      case c1 => have := Hal.out; omega
      case c2 => have := Hal.out; omega
      case c3 => simp; omega
      have hb2 : Below w.heap.size w w2 := Below.grown (w := w1.alloc (.cells #[.string t, .string o1, .int .i64 o2, .int .i64 o3] 60)) (by (repeat' (first | exact Below.refl _ _ | assumption | refine Below.setCell ?_ ?_ _ | refine below_drewN ?_ _ | refine Below.drew ?_ | refine Below.alloc ?_ ?_ _ | (with_reducible refine Below.trans ?_ (Below.mono hb ?_)) | (with_reducible refine Below.trans ?_ (Below.mono hb0 ?_)) | (with_reducible refine Below.trans ?_ (Below.mono hb1 ?_)) | (with_reducible refine Below.trans ?_ (Below.mono hb2 ?_)) | (with_reducible refine Below.trans ?_ (Below.mono hb3 ?_)) | (with_reducible refine Below.trans ?_ (Below.mono hb4 ?_)) | (with_reducible refine Below.trans ?_ (Below.mono hb5 ?_)) | (with_reducible refine Below.trans ?_ (Below.mono hb6 ?_)) | (with_reducible refine Below.trans ?_ (Below.mono hb7 ?_)) | (with_reducible refine Below.trans ?_ (Below.mono hb8 ?_)) | (with_reducible refine Below.trans ?_ (Below.mono hb9 ?_)) | (with_reducible refine Below.trans ?_ (Below.mono hb10 ?_)) | (with_reducible refine Below.trans ?_ (Below.mono hb11 ?_)) | (with_reducible refine Below.trans ?_ (Below.mono hb12 ?_)) | (with_reducible refine Below.trans ?_ (Below.mono hb13 ?_)) | (with_reducible refine Below.trans ?_ (Below.mono hb14 ?_)) | (with_reducible refine Below.trans ?_ (Below.mono hb15 ?_)) | omega | (simp; done) | (simp; omega)))) hg2 (by simp; omega) (fun k hk => (hown1.lt k hk).1)
      go_wp2_with fail
      rw [← ha]
      go_roundg (ts.length - (k + 1))
      case measure => have := hgk.out; omega
      case rel => exact ⟨k + 1, _, by go_num, by omega, rfl, by show _ = _; rw [Hsn.out, ← hacc.out], hown2, hb2⟩
    · have hfin : becs l s ts = acc := by rw [hacc.out, List.take_of_length_le (by omega)]
      have Hfin := Lib.hid hfin
      clear hfin
      go_wp2_with fail
      go_ret; exact ⟨_, rfl, by rw [Hfin.out]; exact hown, hb⟩

/-- The errors of wanting. -/
def skilledE (l : List Topic) (s : List Skill) : Int := if forestFault l ≠ 0 then forestFault l else skillsFault l s
def wantingE (l : List Topic) (s : List Skill) (ts : List ByteArray) : Int := if skilledE l s ≠ 0 then skilledE l s else wantedFault l ts
def GivesF (l : List Topic) (er : Int) (w : World) (e : Ending) (w' : World) : Prop :=
  Below w.heap.size w w' ∧ ((er ≠ 0 ∧ e = .returned (.tuple #[.map none, .int .i64 er])) ∨ (er = 0 ∧ ∃ b, e = .returned (.tuple #[.map (some b), .int .i64 0]) ∧ FMap w' b l l.length))

set_option maxHeartbeats 4000000 in
theorem checkSkills_any (l : List Topic) (a : Option Addr) (cap : Nat) (s : List Skill) (a2 : Option Addr) (cap2 : Nat) (w : World) (hl : SA w a l) (hs : SA w a2 s) (hlen : l.length ≤ 1000000) (hsl : s.length ≤ 1000000) (hsm : SmallT l) :
    Calls Tryd.prog 69 #[.slice a l.length cap, .slice a2 s.length cap2] w (Gives (.int .i64 (skilledE l s)) w) := by
  have HC := Lib.hid (checkForest_any l a cap w hl hlen hsm)
  unfold skilledE
  by_cases hf : forestFault l = 0
  · obtain ⟨h100, hR, _⟩ := fault_zero hf
    rw [hf] at HC
    rw [if_neg (by simp [hf])]
    clear hf
    go_enter Tryd.func69, Tryd.ntmps69
    go_wp2_with fail
    refine HC.out.mono ?_
    rintro e w1 ⟨rfl, hb1⟩
    go_wp2_with fail
    refine (forestOf_any l a cap w1 (hl.below hb1) hlen hR).mono ?_
    rintro e w2 ⟨bF, rfl, hF, hb2⟩
    have hbw := below_next hb1 hb2
    go_wp2_with fail
    refine (skillsFault_any l bF s a2 cap2 w2 hF (hs.below hbw) hsl).mono ?_
    rintro e w3 ⟨rfl, hb3⟩
    go_wp2_with fail
    go_ret
    exact ⟨rfl, below_next hbw hb3⟩
  · rw [if_pos hf]
    generalize forestFault l = er at *
    have hq : (er != 0) = true := by simpa using hf
    go_enter Tryd.func69, Tryd.ntmps69
    go_wp2_with fail
    refine HC.out.mono ?_
    rintro e w1 ⟨rfl, hb1⟩
    go_wp2_with fail
    go_ret
    exact ⟨rfl, hb1⟩

theorem skilledE_right {l : List Topic} {s : List Skill} (h : skilledE l s = 0) : forestFault l = 0 ∧ skillsFault l s = 0 := by
  unfold skilledE at h
  by_cases hf : forestFault l = 0
  · rw [if_neg (by simp [hf])] at h; exact ⟨hf, h⟩
  · rw [if_pos hf] at h; exact absurd h hf

set_option maxHeartbeats 4000000 in
theorem skilled_any (l : List Topic) (a : Option Addr) (cap : Nat) (s : List Skill) (a2 : Option Addr) (cap2 : Nat) (w : World) (hl : SA w a l) (hs : SA w a2 s) (hlen : l.length ≤ 1000000) (hsl : s.length ≤ 1000000) (hsm : SmallT l) :
    Calls Tryd.prog 62 #[.slice a l.length cap, .slice a2 s.length cap2] w (GivesF l (skilledE l s) w) := by
  have HC := Lib.hid (checkSkills_any l a cap s a2 cap2 w hl hs hlen hsl hsm)
  by_cases hf : skilledE l s = 0
  · obtain ⟨h100, hR, _⟩ := fault_zero (skilledE_right hf).1
    rw [hf] at HC ⊢
    clear hf
    go_enter Tryd.func62, Tryd.ntmps62
    go_wp2_with fail
    refine HC.out.mono ?_
    rintro e w1 ⟨rfl, hb1⟩
    go_wp2_with fail
    refine (forestOf_any l a cap w1 (hl.below hb1) hlen hR).mono ?_
    rintro e w2 ⟨bF, rfl, hF, hb2⟩
    go_wp2_with fail
    go_ret2
    exact ⟨below_next hb1 hb2, .inr ⟨rfl, bF, rfl, hF⟩⟩
  · generalize skilledE l s = er at *
    have hq : (er != 0) = true := by simpa using hf
    have Hf := Lib.hid hf
    clear hf
    go_enter Tryd.func62, Tryd.ntmps62
    go_wp2_with fail
    refine HC.out.mono ?_
    rintro e w1 ⟨rfl, hb1⟩
    go_wp2_with fail
    go_ret2
    exact ⟨hb1, .inl ⟨Hf.out, rfl⟩⟩

set_option maxHeartbeats 4000000 in
theorem wanting_any (l : List Topic) (a : Option Addr) (cap : Nat) (s : List Skill) (a2 : Option Addr) (cap2 : Nat) (ts : List ByteArray) (a3 : Option Addr) (cap3 : Nat) (w : World) (hl : SA w a l) (hs : SA w a2 s) (ht : SA w a3 ts) (hlen : l.length ≤ 1000000) (hsl : s.length ≤ 1000000) (htl : ts.length ≤ 1000000) (hsm : SmallT l) :
    Calls Tryd.prog 50 #[.slice a l.length cap, .slice a2 s.length cap2, .slice a3 ts.length cap3] w (GivesF l (wantingE l s ts) w) := by
  have HC := Lib.hid (skilled_any l a cap s a2 cap2 w hl hs hlen hsl hsm)
  unfold wantingE
  by_cases hf : skilledE l s = 0
  · rw [if_neg (by simp [hf])]
    rw [hf] at HC
    clear hf
    go_enter Tryd.func50, Tryd.ntmps50
    go_wp2_with fail
    refine HC.out.mono ?_
    rintro e w1 ⟨hb1, hcase⟩
    obtain ⟨bF, rfl, hF⟩ : ∃ b, e = .returned (.tuple #[.map (some b), .int .i64 0]) ∧ FMap w1 b l l.length := by
      rcases hcase with ⟨h, _⟩ | ⟨_, h⟩
      · exact absurd rfl h
      · exact h
    clear hcase
    have HW := Lib.hid (wantedFault_any l bF ts a3 cap3 w1 hF (ht.below hb1) htl)
    by_cases hw : wantedFault l ts = 0
    · rw [hw] at HW
      have Hw := Lib.hid hw
      clear hw
      go_wp2_with fail
      refine HW.out.mono ?_
      rintro e w2 ⟨rfl, hb2⟩
      go_wp2_with fail
      go_ret2
      exact ⟨below_next hb1 hb2, .inr ⟨Hw.out, bF, rfl, hF.below hb2⟩⟩
    · generalize wantedFault l ts = er at *
      have hq : (er != 0) = true := by simpa using hw
      have Hf := Lib.hid hw
      clear hw
      go_wp2_with fail
      refine HW.out.mono ?_
      rintro e w2 ⟨rfl, hb2⟩
      go_wp2_with fail
      go_ret2
      exact ⟨below_next hb1 hb2, .inl ⟨Hf.out, rfl⟩⟩
  · rw [if_pos hf]
    generalize skilledE l s = er at *
    have hq : (er != 0) = true := by simpa using hf
    have Hf := Lib.hid hf
    clear hf
    go_enter Tryd.func50, Tryd.ntmps50
    go_wp2_with fail
    refine HC.out.mono ?_
    rintro e w1 ⟨hb1, hcase⟩
    obtain rfl : e = .returned (.tuple #[.map none, .int .i64 er]) := by
      rcases hcase with ⟨_, h⟩ | ⟨h, _⟩
      · exact h
      · exact absurd h Hf.out
    clear hcase
    go_wp2_with fail
    go_ret2
    exact ⟨hb1, .inl ⟨Hf.out, rfl⟩⟩
end Go.Proofs.YtfpoaggkjhcdnaaDoor
