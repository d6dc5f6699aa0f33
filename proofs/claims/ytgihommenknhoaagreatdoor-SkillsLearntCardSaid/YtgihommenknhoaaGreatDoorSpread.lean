/- Skills that are spread: Spread of the program, SpreadOf of the reference. -/
import Derived.Test.YtgihommenknhoaaGreatDoorLearn2
import Derived.Test.YtgihommenknhoaaGreatDoorSkill5
namespace Go.Proofs.YtgihommenknhoaaGreatDoor
open Go.RowKit
set_option linter.unusedVariables false
set_option linter.unusedSimpArgs false

/-- How well a topic is known, in percents. -/
def sprW (o : Known) : Int := (100 * o.2.1).tdiv o.2.2
def spread1 (l : List Topic) (s : List Skill) (least : Int) (t : ByteArray) : List Skill := if least ≤ sprW (bestOf l s t) then [(t, sprW (bestOf l s t))] else []
def spreadL (l : List Topic) (s : List Skill) (least : Int) (ts : List Topic) : List Skill := ts.flatMap (fun t => spread1 l s least t.1)
theorem spreadL_snoc (l : List Topic) (s : List Skill) (least : Int) {ts : List Topic} {k : Nat} (hk : k < ts.length) : spreadL l s least (ts.take (k + 1)) = spreadL l s least (ts.take k) ++ spread1 l s least ts[k].1 := by
  unfold spreadL; rw [List.take_succ_eq_append_getElem hk, List.flatMap_append]; simp
theorem spreadL_len (l : List Topic) (s : List Skill) (least : Int) : ∀ ts : List Topic, (spreadL l s least ts).length ≤ ts.length
  | [] => by simp [spreadL]
  | t :: r => by
    have ih := spreadL_len l s least r
    unfold spreadL at *
    rw [List.flatMap_cons, List.length_append, List.length_cons]
    have : (spread1 l s least t.1).length ≤ 1 := by unfold spread1; split <;> simp
    omega
def spreadE (l : List Topic) (s : List Skill) (least : Int) : Int := if skilledE l s ≠ 0 then skilledE l s else if least < 1 ∨ 100 < least then 1 else 0
def spreadOut (l : List Topic) (s : List Skill) (least : Int) : List Skill := if spreadE l s least = 0 then spreadL l s least l else []


theorem field_part (t b : ByteArray) (p q : Int) (w : World) : (Instr.field 155 (.agg #[.string t, .string b, .int .i64 p, .int .i64 q]) 2).run Tryz.prog w = .ok (.agg #[.int .i64 p, .int .i64 q]) w := by kernel_rfl
set_option maxRecDepth 100000 in
set_option maxHeartbeats 4000000 in
theorem spreadOf_any (l : List Topic) (a : Option Addr) (cap : Nat) (s : List Skill) (a2 : Option Addr) (cap2 : Nat) (least : Int) (W1 : World) (hl1 : SA W1 a l) (hs1 : SA W1 a2 s) (hlen : l.length ≤ 1000) (hsl : s.length ≤ 1000000) (hok : SkillOk l s) :
    Calls Tryz.prog 51 #[.slice a l.length cap, .slice a2 s.length cap2, .int .i64 least] W1 (GivesOwn 82 (spreadL l s least l) W1) := by
  have HBest : Hid (∀ x W, SA W a l → SA W a2 s → Calls Tryz.prog 116 #[.slice a l.length cap, .slice a2 s.length cap2, .string x] W (Gives (becV x (bestOf l s x)) W)) := fun x W h1 h2 => knownR_any l a cap s a2 cap2 x W h1 h2 hlen hsl hok
  go_enter Tryz.func51, Tryz.ntmps51
  go_wp2_with fail
  go_loopg [7, 14] l.length (fun gk v i wr => ∃ k : Nat, i = .int .i64 k ∧ k ≤ l.length ∧ Hid (gk = l.length - k) ∧ Own W1.heap.size 82 wr v (spreadL l s least (l.take k)) ∧ Below W1.heap.size W1 wr)
  case atStart => exact ⟨0, rfl, by omega, rfl, Own.nil _ _ _, Below.refl _ _⟩
  obtain ⟨k, rfl, hk, hgk, hown, hbx⟩ := hrel
  by_cases hlt : k < l.length
  · obtain ⟨lb, loff, hla, e0, e1⟩ := (hl1.below hbx).topic hlt
    have Hsn := Lib.hid (spreadL_snoc l s least hlt)
    have hal := spreadL_len l s least (l.take k)
    rw [List.length_take] at hal
    have Hla := Lib.hid hla
    rw [hla]
    clear hla
    generalize l[k] = x at *
    obtain ⟨x1, x2⟩ := x
    simp only at e0 e1 Hsn
    unfold spread1 at Hsn
    have hbd := best_bd (s := s) x1 (by omega) hok
    have HB := Lib.hid (fun W => HBest.out x1 W)
    unfold sprW at Hsn
    unfold becV at HB
    generalize bestOf l s x1 = o at *
    obtain ⟨o1, o2, o3⟩ := o
    obtain ⟨⟨q1, q2⟩, q3, q4⟩ := hbd
    simp only at Hsn HB q1 q2 q3 q4
    obtain ⟨dq, hdq⟩ : ∃ dq, (100 * o2).tdiv o3 = dq := ⟨_, rfl⟩
    have hdb := tdiv_bd (c := 100 * o2) (m := o3) (by omega) (by omega) (by omega)
    rw [hdq] at hdb Hsn
    have hw1 : IntKind.i64.wrap (100 * o2) = 100 * o2 := IntWalk.i64_in _ (by omega)
    have hw2 : IntKind.i64.wrap dq = dq := IntWalk.i64_in _ (by omega)
    have hmz : (o3 == 0) = false := by simp; omega
    have hmz0 : ¬ o3 = 0 := by omega
    generalize spreadL l s least (l.take k) = acc at *
    have hbxa := hbx.alloc hbx.size (.cells #[.string x1, .string x2] 114)
    have hT := Box.new wr 114 #[.string x1, .string x2]
    have hownx := hown.alloc (.cells #[.string x1, .string x2] 114)
    clear hown
    have hlz := (hl1.below hbx).alloc (.cells #[.string x1, .string x2] 114)
    have hsz := (hs1.below hbx).alloc (.cells #[.string x1, .string x2] 114)
    have hfp := field_part x1 o1 o2 o3
    rw [Hla.out] at HB hlz
    go_upto_region 5 with (fail)
    generalize wr.alloc (.cells #[.string x1, .string x2] 114) = wa at *
    generalize wr.heap.size = tb at *
    have hT_l := hT.lt; have hT_0 := hT.cell 0; have hT_1 := hT.cell 1; simp at hT_0 hT_1
    go_wp2_with fail
    refine (HB.out _ hlz hsz).mono ?_
    rintro e wb ⟨rfl, hbb⟩
    clear hT_l hT_0 hT_1
    have hTz := (hT.below hbb).alloc (.cells #[.int .i64 o2, .int .i64 o3] 41)
    have hFz := Box.new wb 41 #[.int .i64 o2, .int .i64 o3]
    have hbz := (below_next hbxa hbb).alloc (below_next hbxa hbb).size (.cells #[.int .i64 o2, .int .i64 o3] 41)
    have hownz0 := (hownx.below hbb).alloc (.cells #[.int .i64 o2, .int .i64 o3] 41)
    clear hownx hT hbxa hbb hlz hsz HB
    go_upto_region 6 with (fail)
    clear hfp
    generalize wb.alloc (.cells #[.int .i64 o2, .int .i64 o3] 41) = wz at *
    generalize wb.heap.size = fb2 at *
    have hTz_l := hTz.lt; have hTz_0 := hTz.cell 0; have hTz_1 := hTz.cell 1; simp at hTz_0 hTz_1
    have hFz_l := hFz.lt; have hFz_0 := hFz.cell 0; have hFz_1 := hFz.cell 1; simp at hFz_0 hFz_1
    by_cases hc : least ≤ dq
    · rw [if_pos hc] at Hsn
      have hownz := hownz0.alloc (.cells #[.string x1, .int .i64 dq] 82)
      have HBn := Box.new wz 82 #[.string x1, .int .i64 dq]
      go_wp2_with (at_builtin; refine wpList_append_one rfl _ _ 75 rfl W1.heap.size 82 24 (.agg #[.string ⟨#[]⟩, .int .i64 0]) Tryz.underlying75 Tryz.infoSkillL rfl _ acc rfl hownz (x1, dq) _ rfl HBn ?c1 ?c2 ?c3 ?_; rotate_left 3; intro v9 w9 hown9 hg9)
      case c1 => omega
      case c2 => omega
      case c3 => have := hbz.size; simp; omega
      have hb9 : Below W1.heap.size W1 w9 := Below.grown (w := wz.alloc (.cells #[.string x1, .int .i64 dq] 82)) (hbz.alloc hbz.size _) hg9 (by have := hbz.size; simp; omega) (fun j hj => (hownz.lt j hj).1)
      go_wp2_with fail
      rw [← Hla.out]
      go_roundg (l.length - (k + 1))
      case measure => have := hgk.out; omega
      case rel => exact ⟨k + 1, by go_num, by omega, rfl, by rw [Hsn.out]; exact hown9, hb9⟩
    · rw [if_neg hc] at Hsn
      have hc2 : dq < least := by omega
      go_wp2_with fail
      rw [← Hla.out]
      go_roundg (l.length - (k + 1))
      case measure => have := hgk.out; omega
      case rel => exact ⟨k + 1, by go_num, by omega, rfl, by rw [Hsn.out, List.append_nil]; exact hownz0, hbz⟩
  · obtain rfl : k = l.length := by omega
    rw [List.take_length] at hown
    obtain ⟨ao, capo, rfl, hsao, _, _⟩ := id hown.sa
    clear hlt
    go_wp2_with fail
    go_ret
    exact ⟨_, rfl, hown, hbx⟩
set_option maxRecDepth 100000 in
set_option maxHeartbeats 4000000 in
theorem spread_any (l : List Topic) (a : Option Addr) (cap : Nat) (s : List Skill) (a2 : Option Addr) (cap2 : Nat) (least : Int) (w : World) (hl : SA w a l) (hs : SA w a2 s) (hlen : l.length ≤ 1000) (hsl : s.length ≤ 1000000) (hsm : SmallT l) :
    Calls Tryz.prog 50 #[.slice a l.length cap, .slice a2 s.length cap2, .int .i64 least] w (GivesSk (spreadE l s least) (spreadOut l s least) w) := by
  have HSk := Lib.hid (skilled_any l a cap s a2 cap2 w hl hs (by omega) hsl hsm)
  have HE1 : Hid (skilledE l s ≠ 0 → spreadE l s least = skilledE l s) := fun h => by unfold spreadE; rw [if_pos h]
  have HE2 : Hid (skilledE l s = 0 → spreadE l s least = if least < 1 ∨ 100 < least then 1 else 0) := fun h => by unfold spreadE; rw [if_neg (by simpa using h)]
  have HO1 : Hid (spreadE l s least ≠ 0 → spreadOut l s least = []) := fun h => by unfold spreadOut; rw [if_neg h]
  have HO2 : Hid (spreadE l s least = 0 → spreadOut l s least = spreadL l s least l) := fun h => by unfold spreadOut; rw [if_pos h]
  have HOk : Hid (skilledE l s = 0 → SkillOk l s) := fun h => (skills_fit (skilledE_right h).1 (skilledE_right h).2).ok
  generalize spreadOut l s least = out at *
  generalize spreadE l s least = er at *
  generalize skilledE l s = ks at *
  go_enter Tryz.func50, Tryz.ntmps50
  go_wp2_with fail
  refine HSk.out.mono ?_
  rintro e W1 ⟨hb1, h1⟩
  rcases h1 with ⟨h0, rfl⟩ | ⟨h0, fb, rfl, hF⟩
  · have h0' : (ks != 0) = true := by simpa using h0
    have HE := Lib.hid (HE1.out h0)
    have HO := Lib.hid (HO1.out (by rw [HE.out]; exact h0))
    clear h0
    go_wp2_with fail
    exact bodyPost_ret (v := .tuple #[.slice none 0 0, .int .i64 ks]) (by simp only [results, Tryz.results50]; go_simp) rfl ⟨hb1, none, 0, by rw [HO.out, HE.out]; rfl, .inl HO.out⟩
  · subst h0
    have hok := HOk.out rfl
    have hE := HE2.out rfl
    clear HE1 HE2 HOk HSk
    by_cases hle : least < 1 ∨ 100 < least
    · rw [if_pos hle] at hE
      subst hE
      have HO := Lib.hid (HO1.out (by decide))
      go_wp2_with fail
      refine (outside_yes least 1 100 _ hle).mono ?_
      rintro e w2 ⟨rfl, rfl⟩
      go_wp2_with fail
      exact bodyPost_ret (v := .tuple #[.slice none 0 0, .int .i64 1]) (by simp only [results, Tryz.results50]; go_simp) rfl ⟨hb1, none, 0, by rw [HO.out]; rfl, .inl HO.out⟩
    · rw [if_neg hle] at hE
      subst hE
      have HO := Lib.hid (HO2.out rfl)
      have hl1 := hl.below hb1
      have hs1 := hs.below hb1
      have HBest : Hid (∀ x W, FMap W fb l l.length → SA W a2 s → Calls Tryz.prog 115 #[.map (some fb), .slice a2 s.length cap2, .string x] W (Gives (becV x (bestOf l s x)) W)) := fun x W h1 h2 => best_any l fb s a2 cap2 x W h1 h2 hlen hsl hok
      clear hl hs HO1 HO2
      go_wp2_with fail
      refine (outside_no least 1 100 _ (by omega) (by omega)).mono ?_
      rintro e w2 ⟨rfl, rfl⟩
      clear hle
      go_wp2_with fail
      go_loopg [10, 28] l.length (fun gk v i wr => ∃ k : Nat, i = .int .i64 k ∧ k ≤ l.length ∧ Hid (gk = l.length - k) ∧ Own W1.heap.size 82 wr v (spreadL l s least (l.take k)) ∧ Below W1.heap.size W1 wr)
      case atStart => exact ⟨0, rfl, by omega, rfl, Own.nil _ _ _, Below.refl _ _⟩
      obtain ⟨k, rfl, hk, hgk, hown, hbx⟩ := hrel
      by_cases hlt : k < l.length
      · obtain ⟨lb, loff, hla, e0, e1⟩ := (hl1.below hbx).topic hlt
        have Hsn := Lib.hid (spreadL_snoc l s least hlt)
        have hal := spreadL_len l s least (l.take k)
        rw [List.length_take] at hal
        have Hla := Lib.hid hla
        rw [hla]
        clear hla
        generalize l[k] = x at *
        obtain ⟨x1, x2⟩ := x
        simp only at e0 e1 Hsn
        unfold spread1 at Hsn
        have hbd := best_bd (s := s) x1 (by omega) hok
        have HB := Lib.hid (fun W => HBest.out x1 W)
        unfold sprW at Hsn
        unfold becV at HB
        generalize bestOf l s x1 = o at *
        obtain ⟨o1, o2, o3⟩ := o
        obtain ⟨⟨q1, q2⟩, q3, q4⟩ := hbd
        simp only at Hsn HB q1 q2 q3 q4
        obtain ⟨dq, hdq⟩ : ∃ dq, (100 * o2).tdiv o3 = dq := ⟨_, rfl⟩
        have hdb := tdiv_bd (c := 100 * o2) (m := o3) (by omega) (by omega) (by omega)
        rw [hdq] at hdb Hsn
        have hw1 : IntKind.i64.wrap (100 * o2) = 100 * o2 := IntWalk.i64_in _ (by omega)
        have hw2 : IntKind.i64.wrap dq = dq := IntWalk.i64_in _ (by omega)
        have hmz : (o3 == 0) = false := by simp; omega
        have hmz0 : ¬ o3 = 0 := by omega
        generalize spreadL l s least (l.take k) = acc at *
        have hbxa := hbx.alloc hbx.size (.cells #[.string x1, .string x2] 114)
        have hT := Box.new wr 114 #[.string x1, .string x2]
        have hownx := hown.alloc (.cells #[.string x1, .string x2] 114)
        clear hown
        have hlz := (hF.below hbx).alloc (.cells #[.string x1, .string x2] 114)
        have hsz := (hs1.below hbx).alloc (.cells #[.string x1, .string x2] 114)
        go_upto_region 10 with (fail)
        generalize wr.alloc (.cells #[.string x1, .string x2] 114) = wa at *
        generalize wr.heap.size = tb at *
        have hT_l := hT.lt; have hT_0 := hT.cell 0; have hT_1 := hT.cell 1; simp at hT_0 hT_1
        go_wp2_with fail
        refine (HB.out _ hlz hsz).mono ?_
        rintro e wb ⟨rfl, hbb⟩
        clear hT_l hT_0 hT_1
        have hTz := (hT.below hbb).alloc (.cells #[.string x1, .string o1, .int .i64 o2, .int .i64 o3] 155)
        have hFz := Box.new wb 155 #[.string x1, .string o1, .int .i64 o2, .int .i64 o3]
        have hbz := (below_next hbxa hbb).alloc (below_next hbxa hbb).size (.cells #[.string x1, .string o1, .int .i64 o2, .int .i64 o3] 155)
        have hownz0 := (hownx.below hbb).alloc (.cells #[.string x1, .string o1, .int .i64 o2, .int .i64 o3] 155)
        clear hownx hT hbxa hbb hlz hsz HB
        go_upto_region 11 with (fail)
        generalize wb.alloc (.cells #[.string x1, .string o1, .int .i64 o2, .int .i64 o3] 155) = wz at *
        generalize wb.heap.size = fb2 at *
        have hTz_l := hTz.lt; have hTz_0 := hTz.cell 0; have hTz_1 := hTz.cell 1; simp at hTz_0 hTz_1
        have hFz_l := hFz.lt; have hFz_0 := hFz.cell 0; have hFz_1 := hFz.cell 1; have hFz_2 := hFz.cell 2; have hFz_3 := hFz.cell 3; simp at hFz_0 hFz_1 hFz_2 hFz_3
        by_cases hc : least ≤ dq
        · rw [if_pos hc] at Hsn
          have hownz := hownz0.alloc (.cells #[.string x1, .int .i64 dq] 82)
          have HBn := Box.new wz 82 #[.string x1, .int .i64 dq]
          go_wp2_with (at_builtin; refine wpList_append_one rfl _ _ 75 rfl W1.heap.size 82 24 (.agg #[.string ⟨#[]⟩, .int .i64 0]) Tryz.underlying75 Tryz.infoSkillL rfl _ acc rfl hownz (x1, dq) _ rfl HBn ?c1 ?c2 ?c3 ?_; rotate_left 3; intro v9 w9 hown9 hg9)
          case c1 => omega
          case c2 => omega
          case c3 => have := hbz.size; simp; omega
          have hb9 : Below W1.heap.size W1 w9 := Below.grown (w := wz.alloc (.cells #[.string x1, .int .i64 dq] 82)) (hbz.alloc hbz.size _) hg9 (by have := hbz.size; simp; omega) (fun j hj => (hownz.lt j hj).1)
          go_wp2_with fail
          rw [← Hla.out]
          go_roundg (l.length - (k + 1))
          case measure => have := hgk.out; omega
          case rel => exact ⟨k + 1, by go_num, by omega, rfl, by rw [Hsn.out]; exact hown9, hb9⟩
        · rw [if_neg hc] at Hsn
          have hc2 : dq < least := by omega
          go_wp2_with fail
          rw [← Hla.out]
          go_roundg (l.length - (k + 1))
          case measure => have := hgk.out; omega
          case rel => exact ⟨k + 1, by go_num, by omega, rfl, by rw [Hsn.out, List.append_nil]; exact hownz0, hbz⟩
      · obtain rfl : k = l.length := by omega
        rw [List.take_length, ← HO.out] at hown
        obtain ⟨ao, capo, rfl, hsao, _, _⟩ := hown.sa
        clear hlt
        go_wp2_with fail
        exact bodyPost_ret (v := .tuple #[.slice ao out.length capo, .int .i64 0]) (by simp only [results, Tryz.results50]; go_simp) rfl ⟨below_next hb1 hbx, ao, capo, rfl, hsao⟩
end Go.Proofs.YtgihommenknhoaaGreatDoor
