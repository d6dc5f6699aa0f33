/- The topics of papers: counted, and listed. -/
import Derived.Test.YtpgofjjcmldhpaaGreatDoorField
import Derived.Test.YtpgofjjcmldhpaaGreatDoorAppAll
import Derived.Test.YtpgofjjcmldhpaaGreatDoorLearn1
import Derived.Test.YtpgofjjcmldhpaaGreatDoorMark
import Derived.Test.YtpgofjjcmldhpaaGreatDoorSkill2
import Derived.Test.YtpgofjjcmldhpaaGreatDoorOutside
import Derived.Test.YtpgofjjcmldhpaaGreatDoorWorths
import Derived.Test.YtpgofjjcmldhpaaGreatDoorPart
/-! The topics of papers: counted, and listed. -/
namespace Go.Proofs.YtpgofjjcmldhpaaGreatDoor
open Go.RowKit
set_option linter.unusedVariables false
set_option linter.unusedSimpArgs false

/-- All topics of papers. -/
def allT (ps : List Paper) : List ByteArray := ps.flatMap (·.topics)
theorem allT_snoc {ps : List Paper} {k : Nat} (hk : k < ps.length) : allT (ps.take (k + 1)) = allT (ps.take k) ++ ps[k].topics := by
  unfold allT; rw [List.take_succ_eq_append_getElem hk, List.flatMap_append]; simp
theorem allT_len {ps : List Paper} {n : Nat} (h : ∀ p ∈ ps, p.topics.length ≤ n) : (allT ps).length ≤ ps.length * n := by
  induction ps with
  | nil => simp [allT]
  | cons p r ih =>
    have h1 := ih fun q hq => h q (List.mem_cons_of_mem _ hq)
    have h2 := h p (List.mem_cons_self ..)
    unfold allT at *
    rw [List.flatMap_cons, List.length_append, List.length_cons, Nat.add_mul]
    omega
theorem allT_bd {ps : List Paper} (hpl : ps.length ≤ 1000) (hsm : ∀ p ∈ ps, PSmall p) (k : Nat) : (allT (ps.take k)).length ≤ 1000000 := by
  have h1 := allT_len (ps := ps.take k) (n := 1000) (fun p hp => (hsm p (List.mem_of_mem_take hp)).2.2.2.2.1)
  have h2 : (ps.take k).length ≤ 1000 := by rw [List.length_take]; omega
  have h3 := Nat.mul_le_mul_right 1000 h2
  omega
theorem allT_small {ps : List Paper} (hsm : ∀ p ∈ ps, PSmall p) : ∀ t ∈ allT ps, t.size ≤ 1000 := fun t ht => by
  unfold allT at ht
  obtain ⟨p, hp, h⟩ := List.mem_flatMap.1 ht
  exact (hsm p hp).2.2.2.2.2.2 t h
def cntT (l : List ByteArray) (t : ByteArray) : Nat := l.countP (fun y => decide (y = t))
theorem cntT_snoc (l : List ByteArray) (t p : ByteArray) : cntT (l ++ [t]) p = cntT l p + if t = p then 1 else 0 := by
  unfold cntT; rw [List.countP_append]
  by_cases h : t = p <;> simp [h]
theorem cntT_pos {l : List ByteArray} {t : ByteArray} : cntT l t ≠ 0 ↔ t ∈ l := by
  unfold cntT
  rw [← Nat.pos_iff_ne_zero, List.countP_pos_iff]
  constructor
  · rintro ⟨x, hx, h⟩; rw [← of_decide_eq_true h]; exact hx
  · intro h; exact ⟨t, h, by simp⟩
theorem cntT_le (l : List ByteArray) (t : ByteArray) : cntT l t ≤ l.length := List.countP_le_length
/-- A map that counts strings. -/
structure CntM (es : List (ByteArray × Value)) (l : List ByteArray) : Prop where
  nodup : (es.map (·.1)).Nodup
  cnt : ∀ t, mget es t = if cntT l t = 0 then none else some (.int .i64 (cntT l t))
  len : es.length ≤ l.length
theorem CntM.nil : CntM [] [] := ⟨List.nodup_nil, fun t => rfl, Nat.le_refl _⟩
theorem CntM.step {es : List (ByteArray × Value)} {l : List ByteArray} (h : CntM es l) (t : ByteArray) : CntM (mput es t (.int .i64 ((cntT l t : Int) + 1))) (l ++ [t]) := by
  refine ⟨mput_nodup _ _ _ h.nodup, fun p => ?_, ?_⟩
  · rw [mget_mput, cntT_snoc]
    by_cases hp : t = p
    · subst hp; simp
    · simp [hp, h.cnt]
  · have := mput_length es t (.int .i64 ((cntT l t : Int) + 1))
    have := h.len
    simp; omega
theorem CntM.look {w : World} {b : Nat} {es : List (ByteArray × Value)} {l : List ByteArray} (h : CntM es l) (hM : MBox w b es) (t : ByteArray) : (Instr.lookup 129 (.map (some b)) (.string t) false).run Tryz.prog w = .ok (.int .i64 (cntT l t)) w := by
  rw [hM.look Tryz.underlying129 Tryz.underlying9 (.int .i64 0) (fun w => Tryz.zeroValue3 w) t false]
  unfold looked
  rw [h.cnt]
  by_cases h0 : cntT l t = 0 <;> simp [h0]
theorem CntM.key {es : List (ByteArray × Value)} {l : List ByteArray} (h : CntM es l) (t : ByteArray) : t ∈ es.map (·.1) ↔ t ∈ l := by
  have hc := h.cnt t
  constructor
  · intro hm
    refine cntT_pos.1 fun h0 => ?_
    rw [if_pos h0] at hc
    obtain ⟨x, hx, rfl⟩ := List.mem_map.1 hm
    exact mget_none hc x hx rfl
  · intro hl
    have h0 := cntT_pos.2 hl
    rw [if_neg h0] at hc
    exact List.mem_map_of_mem (f := (·.1)) (mget_mem hc)
theorem CntM.keys {es : List (ByteArray × Value)} {l : List ByteArray} (h : CntM es l) : keysS (es.map (·.1)) = keysS l := keysS_is (keysS_rise _) fun p => by rw [keysS_mem, h.key]

set_option maxRecDepth 100000 in
set_option maxHeartbeats 4000000 in
theorem counts_any (ps : List Paper) (pa : Option Addr) (pc : Nat) (w : World) (hP : PapersAt w pa ps) (hpl : ps.length ≤ 1000) (hsm : ∀ p ∈ ps, PSmall p) :
    Calls Tryz.prog 85 #[.slice pa ps.length pc] w (fun e w' => ∃ b es, e = .returned (.map (some b)) ∧ MBox w' b es ∧ CntM es (allT ps) ∧ Below w.heap.size w w') := by
  have hmm := @run_makeMap Tryz.prog
  have hM0 := MBox.new w
  have hbM : Below w.heap.size w (w.alloc (.map #[] 0)) := (Below.refl _ _).alloc (Nat.le_refl _) _
  have HSn := Lib.hid (fun k hk => allT_snoc (ps := ps) (k := k) hk)
  have HBd := Lib.hid (fun k => allT_bd hpl hsm k)
  have Hfin := Lib.hid (show allT (ps.take ps.length) = allT ps by rw [List.take_length])
  have HC0 : Hid (CntM [] (allT (ps.take 0))) := CntM.nil
  go_enter Tryz.func85, Tryz.ntmps85
  go_wp2_with fail
  go_loopg [11] ps.length (fun gk i wr => ∃ (k : Nat) (es : List (ByteArray × Value)), i = .int .i64 k ∧ k ≤ ps.length ∧ Hid (gk = ps.length - k) ∧ MBox wr w.heap.size es ∧ Hid (CntM es (allT (ps.take k))) ∧ Below w.heap.size w wr)
  case atStart => exact ⟨0, [], rfl, by omega, rfl, hM0, HC0, hbM⟩
  clear hM0 hbM hmm
  obtain ⟨k, es, rfl, hk, hgk, hM, HC, hb⟩ := hrel
  have hzr := hb.size
  by_cases hlt : k < ps.length
  · obtain ⟨pb, poff, ha, c0, c1, c2, c3, c4⟩ := (hP.below hb).1.paper hlt
    have hrd := hP.2 ps[k] (List.getElem_mem hlt)
    have Hts := Lib.hid (HSn.out k hlt)
    have hx := hsm ps[k] (List.getElem_mem hlt)
    have hbd := HBd.out (k + 1)
    have Ha := Lib.hid ha
    rw [ha]
    clear ha
    generalize ps[k] = p at *
    obtain ⟨x1, x2, x3, au, tt, a1, n1, a2, n2⟩ := p
    obtain ⟨hr1, hr2, hr3⟩ := hrd
    obtain ⟨_, _, _, hx4, hx5, _, hx7⟩ := hx
    simp only at c0 c1 c2 c3 c4 hr1 hr2 hr3 hx4 hx5 hx7 Hts
    rw [Hts.out] at hbd
    rw [List.length_append] at hbd
    generalize allT (ps.take k) = T0 at *
    have hB := Box.new wr 86 #[.string x1, .string x2, .string x3, .slice a1 au.length n1, .slice a2 tt.length n2]
    have hMa := hM.alloc (.cells #[.string x1, .string x2, .string x3, .slice a1 au.length n1, .slice a2 tt.length n2] 86)
    have hba := hb.alloc hzr (.cells #[.string x1, .string x2, .string x3, .slice a1 au.length n1, .slice a2 tt.length n2] 86)
    clear hM
    have hB_l := hB.lt; have hB_0 := hB.cell 0; have hB_1 := hB.cell 1; have hB_2 := hB.cell 2; have hB_3 := hB.cell 3; have hB_4 := hB.cell 4; simp at hB_0 hB_1 hB_2 hB_3 hB_4
    go_wp2_with fail
    clear hB hB_l hB_0 hB_1 hB_2 hB_3 hB_4
    go_loopg [18] tt.length (fun gk i wx => ∃ (j : Nat) (es : List (ByteArray × Value)), i = .int .i64 j ∧ j ≤ tt.length ∧ Hid (gk = tt.length - j) ∧ MBox wx w.heap.size es ∧ Hid (CntM es (T0 ++ tt.take j)) ∧ Below w.heap.size w wx)
    case atStart => exact ⟨0, es, rfl, by omega, rfl, hMa, by simpa using HC, hba⟩
    clear hMa hba HC
    obtain ⟨j, es, rfl, hj, hgj, hM, HC, hbx⟩ := hrel
    have hzx := hbx.size
    by_cases hjl : j < tt.length
    · obtain ⟨tb, toff, hta, d0⟩ := (hr2.below hbx).str hjl
      have Hstep := Lib.hid (show (T0 ++ tt.take j) ++ [tt[j]] = T0 ++ tt.take (j + 1) by rw [List.append_assoc, ← List.take_succ_eq_append_getElem hjl])
      have hcl := cntT_le (T0 ++ tt.take j) tt[j]
      have HCs := Lib.hid (HC.out.step tt[j])
      have hlk := HC.out.look hM tt[j]
      have Hta := Lib.hid hta
      rw [List.length_append, List.length_take] at hcl
      rw [Hstep.out] at HCs
      rw [hta]
      clear hta Hstep
      generalize tt[j] = t at *
      generalize cntT (T0 ++ tt.take j) t = c at *
      have hw : IntKind.i64.wrap ((c : Int) + 1) = (c : Int) + 1 := IntWalk.i64_in _ (by omega)
      have hMl := hM.lt
      go_wp2_with (at_mapUpdate; refine wpList_mapUpdate_box rfl _ _ _ 129 rfl 9 3 Tryz.underlying129 Tryz.underlying9 w.heap.size es rfl hM t rfl (.int .i64 ((c : Int) + 1)) rfl ?_; intro W5 hM5 hg5 hs5)
      have hb5 : Below w.heap.size w W5 := hbx.grown hg5 (by omega) (by rintro j hj; cases hj; omega)
      rw [← Hta.out]
      go_roundg (tt.length - (j + 1))
      case measure => have := hgj.out; omega
      case rel => exact ⟨j + 1, _, by go_num, by omega, rfl, hM5, HCs, hb5⟩
    · obtain rfl : j = tt.length := by omega
      rw [List.take_length, ← Hts.out] at HC
      clear hjl
      go_wp2_with fail
      rw [← Ha.out]
      go_roundg (ps.length - (k + 1))
      case measure => have := hgk.out; omega
      case rel => exact ⟨k + 1, es, by go_num, by omega, rfl, hM, HC, hbx⟩
  · obtain rfl : k = ps.length := by omega
    rw [Hfin.out] at HC
    go_wp2_with fail
    go_ret
    exact ⟨_, _, rfl, hM, HC.out, hb⟩
/-- The topics of papers, sorted. -/
theorem keysCnt_any (b : Nat) (es : List (ByteArray × Value)) (l : List ByteArray) (w : World) (h : MBox w b es) (hC : CntM es l) (hl : l.length ≤ 1000000) (hs : ∀ t ∈ l, t.size ≤ 1000) :
    Calls Tryz.prog 84 #[.map (some b)] w (GivesOwn 9 (keysS l) w) := by
  rw [← hC.keys]
  exact keysI_any b es w h hC.nodup (by have := hC.len; omega) (fun x hx => by have := hs x.1 ((hC.key x.1).1 (List.mem_map_of_mem (f := (·.1)) hx)); omega)
set_option maxRecDepth 100000 in
set_option maxHeartbeats 4000000 in
theorem topicsIn_any (ps : List Paper) (pa : Option Addr) (pc : Nat) (w : World) (hP : PapersAt w pa ps) (hpl : ps.length ≤ 1000) (hsm : ∀ p ∈ ps, PSmall p) :
    Calls Tryz.prog 91 #[.slice pa ps.length pc] w (GivesOwn 9 (keysS (allT ps)) w) := by
  have HSn := Lib.hid (fun k hk => allT_snoc (ps := ps) (k := k) hk)
  have HBd := Lib.hid (fun k => allT_bd hpl hsm k)
  have Hfin := Lib.hid (show allT (ps.take ps.length) = allT ps by rw [List.take_length])
  have H0 := Lib.hid (show allT (ps.take 0) = [] from rfl)
  go_enter Tryz.func91, Tryz.ntmps91
  go_wp2_with fail
  go_loopg [3, 8] ps.length (fun gk v i wr => ∃ k : Nat, i = .int .i64 k ∧ k ≤ ps.length ∧ Hid (gk = ps.length - k) ∧ Own w.heap.size 9 wr v (allT (ps.take k)) ∧ Below w.heap.size w wr)
  case atStart => exact ⟨0, rfl, by omega, rfl, by rw [H0.out]; exact Own.nil _ _ _, Below.refl _ _⟩
  obtain ⟨k, rfl, hk, hgk, hown, hb⟩ := hrel
  have hzr := hb.size
  by_cases hlt : k < ps.length
  · obtain ⟨pb, poff, ha, c0, c1, c2, c3, c4⟩ := (hP.below hb).1.paper hlt
    have hrd := hP.2 ps[k] (List.getElem_mem hlt)
    have Hts := Lib.hid (HSn.out k hlt)
    have hx := hsm ps[k] (List.getElem_mem hlt)
    have hbd := HBd.out k
    have Ha := Lib.hid ha
    rw [ha]
    clear ha
    generalize ps[k] = p at *
    obtain ⟨x1, x2, x3, au, tt, a1, n1, a2, n2⟩ := p
    obtain ⟨hr1, hr2, hr3⟩ := hrd
    obtain ⟨_, _, _, hx4, hx5, _, hx7⟩ := hx
    simp only at c0 c1 c2 c3 c4 hr1 hr2 hr3 hx4 hx5 hx7 Hts
    generalize allT (ps.take k) = T0 at *
    have hB := Box.new wr 86 #[.string x1, .string x2, .string x3, .slice a1 au.length n1, .slice a2 tt.length n2]
    have hba := hb.alloc hzr (.cells #[.string x1, .string x2, .string x3, .slice a1 au.length n1, .slice a2 tt.length n2] 86)
    have hown1 := hown.alloc (.cells #[.string x1, .string x2, .string x3, .slice a1 au.length n1, .slice a2 tt.length n2] 86)
    have hts := hr2.below hba
    have hB_l := hB.lt; have hB_0 := hB.cell 0; have hB_1 := hB.cell 1; have hB_2 := hB.cell 2; have hB_3 := hB.cell 3; have hB_4 := hB.cell 4; simp at hB_0 hB_1 hB_2 hB_3 hB_4
    go_wp2_with (at_builtin; refine wpList_append_all (α := ByteArray) rfl _ _ 52 rfl 9 16 (.string ⟨#[]⟩) Tryz.underlying52 Tryz.infoString rfl _ T0 rfl hown1 tt a2 n2 rfl hts (by omega) (by omega) (by simp; omega) ?_; intro v5 w5 hown5 hg5)
    have hb5 := hba.grown hg5 (by simp; omega) (fun j hj => (hown.lt j hj).1)
    rw [← Hts.out] at hown5
    rw [← Ha.out]
    (try go_wp2_with fail)
    go_roundg (ps.length - (k + 1))
    case measure => have := hgk.out; omega
    case rel => exact ⟨k + 1, by go_num, by omega, rfl, hown5, hb5⟩
  · obtain rfl : k = ps.length := by omega
    have hbd := HBd.out ps.length
    rw [Hfin.out] at hown hbd
    obtain ⟨oa, oc, rfl, hoa, _, _⟩ := hown.sa
    have HS := Lib.hid (fun W (h : SA W oa (allT ps)) => sorted_any (allT ps) oa oc W h (by omega))
    go_wp2_with fail
    refine (HS.out _ hoa).mono ?_
    rintro e w6 ⟨v6, rfl, hown6, hb6⟩
    go_wp2_with fail
    go_ret
    exact ⟨_, rfl, hown6.mono (by omega), below_next hb hb6⟩
end Go.Proofs.YtpgofjjcmldhpaaGreatDoor

/-! Topics that no reader knows. -/
namespace Go.Proofs.YtpgofjjcmldhpaaGreatDoor
open Go.RowKit
set_option linter.unusedVariables false
set_option linter.unusedSimpArgs false

/-- A list and an error. -/
def GivesL {α : Type} [Cel α] (er : Int) (out : List α) (w : World) (e : Ending) (w' : World) : Prop :=
  Below w.heap.size w w' ∧ ∃ a c, e = .returned (.tuple #[.slice a out.length c, .int .i64 er]) ∧ SA w' a out
theorem becPart (t b : ByteArray) (p q : Int) (w : World) : (Instr.field 132 (.agg #[.string t, .string b, .int .i64 p, .int .i64 q]) 2).run Tryz.prog w = .ok (.agg #[.int .i64 p, .int .i64 q]) w := by kernel_rfl
/-- A reader knows a topic. -/
def knowsB (l : List Topic) (least : Int) (t : ByteArray) (r : Reader) : Bool := decide (least * (bestOf l r.skills t).2.2 ≤ 100 * (bestOf l r.skills t).2.1)
theorem rtwo {P : Program} {ops : Array Oper} {Q : Exit → Act → World → Prop} {md : Region.Mode} {S : World → Prop} {i j : Nat} {oi oj : Oper} {di dj : Option Tmp} {fuel : Nat} {listed : Array Bool} {a : Act} {w : World}
    (hr : Region.ready md ops listed = [i, j]) (hi : ops[i]? = some oi) (hdi : oi.dst = di) (hj : ops[j]? = some oj) (hdj : oj.dst = dj)
    (h1 : ∀ K' : Act → World → Prop, Shut (∀ v w, S w → (S w → wpAnyH P md ops Q S fuel (listed.setIfInBounds i true) (a.put di v) w) → K' (a.put di v) w) → if Region.wanted oi (yielded ops a.tmps) = true then Oper.wp P oi a w K' Q else K' (a.put di undef) w)
    (h2 : ∀ K' : Act → World → Prop, Shut (∀ v w, S w → (S w → wpAnyH P md ops Q S fuel (listed.setIfInBounds j true) (a.put dj v) w) → K' (a.put dj v) w) → if Region.wanted oj (yielded ops a.tmps) = true then Oper.wp P oj a w K' Q else K' (a.put dj undef) w) :
    wpAnyH P md ops Q S (fuel + 1) listed a w := by
  subst hdi hdj
  exact wpAnyH_ready hr (by simp) (AllReadyH.cons hi (fun K' hK => h1 K' (fun v w hS hh => hK.out _ _ hS hh)) (AllReadyH.cons hj (fun K' hK => h2 K' (fun v w hS hh => hK.out _ _ hS hh)) AllReadyH.nil))
set_option maxRecDepth 100000 in
set_option maxHeartbeats 4000000 in
theorem uncClo_any (l : List Topic) (fb xb xc tc lc : Nat) (t : ByteArray) (least : Int) (r : Reader) (w : World) (hX : w.cell? ⟨xb, 0, none⟩ = some (.map (some fb))) (hF : FMap w fb l l.length) (hxc : w.cell? ⟨xc, 0, none⟩ = some (.pointer (some ⟨xb, 0, none⟩))) (htc : w.cell? ⟨tc, 0, none⟩ = some (.string t)) (hlc : w.cell? ⟨lc, 0, none⟩ = some (.int .i64 least))
    (hs : SA w r.a r.skills) (hlen : l.length ≤ 1000) (hsl : r.skills.length ≤ 1000000) (hok : SkillOk l r.skills) (h1 : 1 ≤ least) (h2 : least ≤ 100) :
    Calls Tryz.prog 86 #[encReader r, .pointer (some ⟨xc, 0, none⟩), .pointer (some ⟨tc, 0, none⟩), .pointer (some ⟨lc, 0, none⟩)] w (Gives (.bool (knowsB l least t r)) w) := by
  have HB := Lib.hid (fun W h1 h2 => best_any l fb r.skills r.a r.c t W h1 h2 hlen hsl hok)
  have hbd := best_bd (s := r.skills) t hlen hok
  have HV : Hid (knowsB l least t r = decide (least * (bestOf l r.skills t).2.2 ≤ 100 * (bestOf l r.skills t).2.1)) := rfl
  unfold becV at HB
  generalize knowsB l least t r = kb at *
  generalize bestOf l r.skills t = o at *
  obtain ⟨o1, o2, o3⟩ := o
  obtain ⟨⟨q1, q2⟩, q3, q4⟩ := hbd
  obtain ⟨y1, y2, y3, y4⟩ := r
  unfold encReader
  simp only at hs HB HV q1 q2 q3 q4 ⊢
  have hm1 : least * o3 ≤ 100 * o3 := Int.mul_le_mul_of_nonneg_right h2 (by omega)
  have hm2 : 0 ≤ least * o3 := Int.mul_nonneg (by omega) (by omega)
  obtain ⟨lo, hlo⟩ : ∃ x, least * o3 = x := ⟨_, rfl⟩
  rw [hlo] at hm1 hm2 HV
  have hw1 : IntKind.i64.wrap (100 * o2) = 100 * o2 := IntWalk.i64_in _ (by omega)
  have hw2 : IntKind.i64.wrap (least * o3) = lo := by rw [hlo]; exact IntWalk.i64_in _ (by omega)
  have hb1 : Below w.heap.size w (w.alloc (.cells #[.string y1, .slice y3 y2.length y4] 92)) := by (repeat' (first | exact Below.refl _ _ | assumption | refine Below.setCell ?_ ?_ _ | refine below_drewN ?_ _ | refine Below.drew ?_ | refine Below.alloc ?_ ?_ _ | (with_reducible refine Below.trans ?_ (Below.mono hb ?_)) | (with_reducible refine Below.trans ?_ (Below.mono hb0 ?_)) | (with_reducible refine Below.trans ?_ (Below.mono hb1 ?_)) | (with_reducible refine Below.trans ?_ (Below.mono hb2 ?_)) | (with_reducible refine Below.trans ?_ (Below.mono hb3 ?_)) | (with_reducible refine Below.trans ?_ (Below.mono hb4 ?_)) | (with_reducible refine Below.trans ?_ (Below.mono hb5 ?_)) | (with_reducible refine Below.trans ?_ (Below.mono hb6 ?_)) | (with_reducible refine Below.trans ?_ (Below.mono hb7 ?_)) | (with_reducible refine Below.trans ?_ (Below.mono hb8 ?_)) | (with_reducible refine Below.trans ?_ (Below.mono hb9 ?_)) | (with_reducible refine Below.trans ?_ (Below.mono hb10 ?_)) | (with_reducible refine Below.trans ?_ (Below.mono hb11 ?_)) | (with_reducible refine Below.trans ?_ (Below.mono hb12 ?_)) | (with_reducible refine Below.trans ?_ (Below.mono hb13 ?_)) | (with_reducible refine Below.trans ?_ (Below.mono hb14 ?_)) | (with_reducible refine Below.trans ?_ (Below.mono hb15 ?_)) | omega | (simp; done) | (simp; omega)))
  have hB := (Box.new w 92 #[.string y1, .slice y3 y2.length y4]).cell 1
  have hX1 := cell_later hb1 hX
  have hxc1 := cell_later hb1 hxc
  have htc1 := cell_later hb1 htc
  have hfp := becPart t o1 o2 o3
  have hl1 := cell_lt hX
  have hl2 := cell_lt hxc
  have hl3 := cell_lt htc
  go_enter Tryz.func86, Tryz.ntmps86
  go_upto_region 1 with (fail)
  refine wp_region_held_drew (S := (fun wx => wx.cell? ⟨xc, 0, none⟩ = some (.pointer (some ⟨xb, 0, none⟩)) ∧ wx.cell? ⟨xb, 0, none⟩ = some (.map (some fb)) ∧ wx.cell? ⟨tc, 0, none⟩ = some (.string t) ∧ wx.cell? ⟨w.heap.size, 1, none⟩ = some (.slice y3 y2.length y4) ∧ Below w.heap.size w wx)) (by kernel_rfl) ?hS (fun hHeld => ?_)
  case hS => exact ⟨hxc1, hX1, htc1, hB, hb1.drew⟩
  refine rtake (i := 0) (d := (some 7)) (v := ?_) rfl (by kernel_rfl) (by kernel_rfl) (by kernel_rfl) (by kernel_rfl) (fun _ _ _ h => h) (by kernel_rfl) (by assumption) ?_ ?_
  rotate_left 1
  · (intro wI hSI; (try dsimp only at hSI); go_simp; (try with_reducible rfl))
  simp only [Act.put, List.setIfInBounds_toArray, List.set_cons_zero, List.set_cons_succ]
  refine rtake (i := 1) (d := (some 8)) (v := ?_) rfl (by kernel_rfl) (by kernel_rfl) (by kernel_rfl) (by kernel_rfl) (fun _ _ _ h => h) (by kernel_rfl) (by assumption) ?_ ?_
  rotate_left 1
  · (intro wI hSI; (try dsimp only at hSI); go_simp; (try with_reducible rfl))
  simp only [Act.put, List.setIfInBounds_toArray, List.set_cons_zero, List.set_cons_succ]
  refine rtake (i := 2) (d := (some 9)) (v := ?_) rfl (by kernel_rfl) (by kernel_rfl) (by kernel_rfl) (by kernel_rfl) (fun _ _ _ h => h) (by kernel_rfl) (by assumption) ?_ ?_
  rotate_left 1
  · (intro wI hSI; (try dsimp only at hSI); go_simp; (try with_reducible rfl))
  simp only [Act.put, List.setIfInBounds_toArray, List.set_cons_zero, List.set_cons_succ]
  refine rtake (i := 3) (d := (some 10)) (v := ?_) rfl (by kernel_rfl) (by kernel_rfl) (by kernel_rfl) (by kernel_rfl) (fun _ _ _ h => h) (by kernel_rfl) (by assumption) ?_ ?_
  rotate_left 1
  · (intro wI hSI; (try dsimp only at hSI); go_simp; (try with_reducible rfl))
  simp only [Act.put, List.setIfInBounds_toArray, List.set_cons_zero, List.set_cons_succ]
  refine rtake (i := 4) (d := (some 11)) (v := ?_) rfl (by kernel_rfl) (by kernel_rfl) (by kernel_rfl) (by kernel_rfl) (fun _ _ _ h => h) (by kernel_rfl) (by assumption) ?_ ?_
  rotate_left 1
  · (intro wI hSI; (try dsimp only at hSI); go_simp; (try with_reducible rfl))
  simp only [Act.put, List.setIfInBounds_toArray, List.set_cons_zero, List.set_cons_succ]
  refine rtake (i := 5) (d := (some 12)) (v := ?_) rfl (by kernel_rfl) (by kernel_rfl) (by kernel_rfl) (by kernel_rfl) (fun _ _ _ h => h) (by kernel_rfl) (by assumption) ?_ ?_
  rotate_left 1
  · (intro wI hSI; (try dsimp only at hSI); go_simp; (try with_reducible rfl))
  simp only [Act.put, List.setIfInBounds_toArray, List.set_cons_zero, List.set_cons_succ]
  refine rtake (i := 6) (d := (some 13)) (v := ?_) rfl (by kernel_rfl) (by kernel_rfl) (by kernel_rfl) (by kernel_rfl) (fun _ _ _ h => h) (by kernel_rfl) (by assumption) ?_ ?_
  rotate_left 1
  · (intro wI hSI; (try dsimp only at hSI); go_simp; (try with_reducible rfl))
  simp only [Act.put, List.setIfInBounds_toArray, List.set_cons_zero, List.set_cons_succ]
  refine rtwo (i := 7) (di := (some 14)) (j := 9) (dj := (some 6)) (by kernel_rfl) rfl (by kernel_rfl) rfl (by kernel_rfl) (fun K hK => ?_) (fun K hK => ?_)
  · go_simp
    go_at_call 87
    refine (HB.out _ (hF.below hHeld.2.2.2.2) (hs.below hHeld.2.2.2.2)).mono ?_
    rintro e w3 ⟨rfl, hb3⟩
    refine hK.out _ _ ?hS (fun hHeld => ?_)
    case hS => exact ⟨cell_later hb3 hHeld.1, cell_later hb3 hHeld.2.1, cell_later hb3 hHeld.2.2.1, cell_later hb3 hHeld.2.2.2.1, below_next hHeld.2.2.2.2 hb3⟩
    clear hK K
    simp only [Act.put, List.setIfInBounds_toArray, List.set_cons_zero, List.set_cons_succ]
    refine rtake (i := 8) (d := (some 15)) (v := ?_) rfl (by kernel_rfl) (by kernel_rfl) (by kernel_rfl) (by kernel_rfl) (fun _ _ _ h => h) (by kernel_rfl) (by assumption) ?_ ?_
    rotate_left 1
    · (intro wI hSI; (try dsimp only at hSI); go_simp; (try with_reducible rfl))
    simp only [Act.put, List.setIfInBounds_toArray, List.set_cons_zero, List.set_cons_succ]
    have hb13 := hHeld.2.2.2.2
    have hz3 := hb13.size
    have hb4 : Below w.heap.size w (w3.alloc (.cells #[.int .i64 0, .int .i64 0] 37)) := by (repeat' (first | exact Below.refl _ _ | assumption | refine Below.setCell ?_ ?_ _ | refine below_drewN ?_ _ | refine Below.drew ?_ | refine Below.alloc ?_ ?_ _ | (with_reducible refine Below.trans ?_ (Below.mono hb ?_)) | (with_reducible refine Below.trans ?_ (Below.mono hb0 ?_)) | (with_reducible refine Below.trans ?_ (Below.mono hb1 ?_)) | (with_reducible refine Below.trans ?_ (Below.mono hb2 ?_)) | (with_reducible refine Below.trans ?_ (Below.mono hb3 ?_)) | (with_reducible refine Below.trans ?_ (Below.mono hb4 ?_)) | (with_reducible refine Below.trans ?_ (Below.mono hb5 ?_)) | (with_reducible refine Below.trans ?_ (Below.mono hb6 ?_)) | (with_reducible refine Below.trans ?_ (Below.mono hb7 ?_)) | (with_reducible refine Below.trans ?_ (Below.mono hb8 ?_)) | (with_reducible refine Below.trans ?_ (Below.mono hb9 ?_)) | (with_reducible refine Below.trans ?_ (Below.mono hb10 ?_)) | (with_reducible refine Below.trans ?_ (Below.mono hb11 ?_)) | (with_reducible refine Below.trans ?_ (Below.mono hb12 ?_)) | (with_reducible refine Below.trans ?_ (Below.mono hb13 ?_)) | (with_reducible refine Below.trans ?_ (Below.mono hb14 ?_)) | (with_reducible refine Below.trans ?_ (Below.mono hb15 ?_)) | omega | (simp; done) | (simp; omega)))
    have hH3 := hHeld
    refine rcall (i := 9) (d := (some 6)) (by kernel_rfl) rfl (by kernel_rfl) (fun K hK => ?_)
    go_simp
    refine hK.out _ _ ?hS (fun hHeld => ?_)
    case hS => exact ⟨cell_later ((Below.refl _ _).alloc (Nat.le_refl _) _) hHeld.1, cell_later ((Below.refl _ _).alloc (Nat.le_refl _) _) hHeld.2.1, cell_later ((Below.refl _ _).alloc (Nat.le_refl _) _) hHeld.2.2.1, cell_later ((Below.refl _ _).alloc (Nat.le_refl _) _) hHeld.2.2.2.1, hb4⟩
    clear hK K
    simp only [Act.put, List.setIfInBounds_toArray, List.set_cons_zero, List.set_cons_succ]
    have hF4 := Box.new w3 37 #[.int .i64 o2, .int .i64 o3]
    have hbS : Below w.heap.size w (w3.alloc (.cells #[.int .i64 o2, .int .i64 o3] 37)) := by (repeat' (first | exact Below.refl _ _ | assumption | refine Below.setCell ?_ ?_ _ | refine below_drewN ?_ _ | refine Below.drew ?_ | refine Below.alloc ?_ ?_ _ | (with_reducible refine Below.trans ?_ (Below.mono hb ?_)) | (with_reducible refine Below.trans ?_ (Below.mono hb0 ?_)) | (with_reducible refine Below.trans ?_ (Below.mono hb1 ?_)) | (with_reducible refine Below.trans ?_ (Below.mono hb2 ?_)) | (with_reducible refine Below.trans ?_ (Below.mono hb3 ?_)) | (with_reducible refine Below.trans ?_ (Below.mono hb4 ?_)) | (with_reducible refine Below.trans ?_ (Below.mono hb5 ?_)) | (with_reducible refine Below.trans ?_ (Below.mono hb6 ?_)) | (with_reducible refine Below.trans ?_ (Below.mono hb7 ?_)) | (with_reducible refine Below.trans ?_ (Below.mono hb8 ?_)) | (with_reducible refine Below.trans ?_ (Below.mono hb9 ?_)) | (with_reducible refine Below.trans ?_ (Below.mono hb10 ?_)) | (with_reducible refine Below.trans ?_ (Below.mono hb11 ?_)) | (with_reducible refine Below.trans ?_ (Below.mono hb12 ?_)) | (with_reducible refine Below.trans ?_ (Below.mono hb13 ?_)) | (with_reducible refine Below.trans ?_ (Below.mono hb14 ?_)) | (with_reducible refine Below.trans ?_ (Below.mono hb15 ?_)) | omega | (simp; done) | (simp; omega)))
    refine rcall (i := 10) (d := none) (by kernel_rfl) rfl (by kernel_rfl) (fun K hK => ?_)
    go_simp
    refine hK.out undef _ ?hS (fun hHeld => ?_)
    case hS => exact ⟨cell_later ((Below.refl _ _).alloc (Nat.le_refl _) _) hH3.1, cell_later ((Below.refl _ _).alloc (Nat.le_refl _) _) hH3.2.1, cell_later ((Below.refl _ _).alloc (Nat.le_refl _) _) hH3.2.2.1, cell_later ((Below.refl _ _).alloc (Nat.le_refl _) _) hH3.2.2.2.1, hbS⟩
    clear hK K
    simp only [Act.put, List.setIfInBounds_toArray, List.set_cons_zero, List.set_cons_succ]
    refine wpAnyH_done (by kernel_rfl) ?_ _
    clear hHeld hH3
    have hlc4 := cell_later hbS hlc
    have hF4_l := hF4.lt; have hF4_0 := hF4.cell 0; have hF4_1 := hF4.cell 1; simp at hF4_0 hF4_1
    go_wp2_with fail
    go_ret
    exact ⟨by rw [HV.out] <;> rfl, hbS⟩
  · go_simp
    have hb4 : Below w.heap.size w ((w.alloc (.cells #[.string y1, .slice y3 y2.length y4] 92)).drew.alloc (.cells #[.int .i64 0, .int .i64 0] 37)) := by (repeat' (first | exact Below.refl _ _ | assumption | refine Below.setCell ?_ ?_ _ | refine below_drewN ?_ _ | refine Below.drew ?_ | refine Below.alloc ?_ ?_ _ | (with_reducible refine Below.trans ?_ (Below.mono hb ?_)) | (with_reducible refine Below.trans ?_ (Below.mono hb0 ?_)) | (with_reducible refine Below.trans ?_ (Below.mono hb1 ?_)) | (with_reducible refine Below.trans ?_ (Below.mono hb2 ?_)) | (with_reducible refine Below.trans ?_ (Below.mono hb3 ?_)) | (with_reducible refine Below.trans ?_ (Below.mono hb4 ?_)) | (with_reducible refine Below.trans ?_ (Below.mono hb5 ?_)) | (with_reducible refine Below.trans ?_ (Below.mono hb6 ?_)) | (with_reducible refine Below.trans ?_ (Below.mono hb7 ?_)) | (with_reducible refine Below.trans ?_ (Below.mono hb8 ?_)) | (with_reducible refine Below.trans ?_ (Below.mono hb9 ?_)) | (with_reducible refine Below.trans ?_ (Below.mono hb10 ?_)) | (with_reducible refine Below.trans ?_ (Below.mono hb11 ?_)) | (with_reducible refine Below.trans ?_ (Below.mono hb12 ?_)) | (with_reducible refine Below.trans ?_ (Below.mono hb13 ?_)) | (with_reducible refine Below.trans ?_ (Below.mono hb14 ?_)) | (with_reducible refine Below.trans ?_ (Below.mono hb15 ?_)) | omega | (simp; done) | (simp; omega)))
    have hF0 := Box.newAt (w.alloc (.cells #[.string y1, .slice y3 y2.length y4] 92)).drew (w.heap.size + 1) 37 #[.int .i64 0, .int .i64 0] (by simp)
    refine hK.out _ _ ?hS (fun hHeld => ?_)
    case hS => exact ⟨cell_later ((Below.refl _ _).alloc (Nat.le_refl _) _) hHeld.1, cell_later ((Below.refl _ _).alloc (Nat.le_refl _) _) hHeld.2.1, cell_later ((Below.refl _ _).alloc (Nat.le_refl _) _) hHeld.2.2.1, cell_later ((Below.refl _ _).alloc (Nat.le_refl _) _) hHeld.2.2.2.1, hb4⟩
    clear hK K
    simp only [Act.put, List.setIfInBounds_toArray, List.set_cons_zero, List.set_cons_succ]
    refine rcall (i := 7) (d := (some 14)) (by kernel_rfl) rfl (by kernel_rfl) (fun K hK => ?_)
    go_simp
    go_at_call 87; refine (HB.out _ (hF.below hHeld.2.2.2.2) (hs.below hHeld.2.2.2.2)).mono ?_; rintro e w3 ⟨rfl, hb3⟩
    refine hK.out _ _ ?hS (fun hHeld => ?_)
    case hS => exact ⟨cell_later hb3 hHeld.1, cell_later hb3 hHeld.2.1, cell_later hb3 hHeld.2.2.1, cell_later hb3 hHeld.2.2.2.1, below_next hHeld.2.2.2.2 hb3⟩
    clear hK K
    simp only [Act.put, List.setIfInBounds_toArray, List.set_cons_zero, List.set_cons_succ]
    refine rtake (i := 8) (d := (some 15)) (v := ?_) rfl (by kernel_rfl) (by kernel_rfl) (by kernel_rfl) (by kernel_rfl) (fun _ _ _ h => h) (by kernel_rfl) (by assumption) ?_ ?_
    rotate_left 1
    · (intro wI hSI; (try dsimp only at hSI); go_simp; (try with_reducible rfl))
    simp only [Act.put, List.setIfInBounds_toArray, List.set_cons_zero, List.set_cons_succ]
    have hF3 := hF0.below hb3
    have hfr0 := hF3.frozen 0
    have hfr1 := hF3.frozen 1
    have hzW := hF3.lt
    have hF3_l := hF3.lt; have hF3_0 := hF3.cell 0; have hF3_1 := hF3.cell 1; simp at hF3_0 hF3_1
    have hKs := ((Kp.of_below (X := fun b => b = (w.heap.size + 1)) (Below.refl (w3).heap.size (w3))).setCell (p := ⟨(w.heap.size + 1), 0, none⟩) (.inl rfl) (.int .i64 o2)).setCell (p := ⟨(w.heap.size + 1), 1, none⟩) (.inl rfl) (.int .i64 o3)
    have hbS := belowKp hHeld.2.2.2.2 hKs (by rintro k rfl; omega) (by omega)
    have hF4 := (hF3.set 0 (.int .i64 o2)).set 1 (.int .i64 o3)
    refine rcall (i := 10) (d := none) (by kernel_rfl) rfl (by kernel_rfl) (fun K hK => ?_)
    go_simp
    refine hK.out undef _ ?hS (fun hHeld => ?_)
    case hS => exact ⟨cellKp hKs (by omega) hHeld.1, cellKp hKs (by omega) hHeld.2.1, cellKp hKs (by omega) hHeld.2.2.1, cellKp hKs (by omega) hHeld.2.2.2.1, hbS⟩
    clear hK K
    simp only [Act.put, List.setIfInBounds_toArray, List.set_cons_zero, List.set_cons_succ]
    refine wpAnyH_done (by kernel_rfl) ?_ _
    clear hF3_l hF3_0 hF3_1
    clear hHeld hKs hF3
    have hlc4 := cell_later hbS hlc
    have hF4_l := hF4.lt; have hF4_0 := hF4.cell 0; have hF4_1 := hF4.cell 1; simp at hF4_0 hF4_1
    go_wp2_with fail
    go_ret
    exact ⟨by rw [HV.out] <;> rfl, hbS⟩
set_option maxRecDepth 100000 in
set_option maxHeartbeats 4000000 in
theorem uncOfClo_any (l : List Topic) (al : Option Addr) (capl xc tc lc : Nat) (t : ByteArray) (least : Int) (r : Reader) (w : World) (hl : SA w al l) (hxc : w.cell? ⟨xc, 0, none⟩ = some (.slice al l.length capl)) (htc : w.cell? ⟨tc, 0, none⟩ = some (.string t)) (hlc : w.cell? ⟨lc, 0, none⟩ = some (.int .i64 least))
    (hs : SA w r.a r.skills) (hlen : l.length ≤ 1000) (hsl : r.skills.length ≤ 1000000) (hok : SkillOk l r.skills) (h1 : 1 ≤ least) (h2 : least ≤ 100) :
    Calls Tryz.prog 92 #[encReader r, .pointer (some ⟨xc, 0, none⟩), .pointer (some ⟨tc, 0, none⟩), .pointer (some ⟨lc, 0, none⟩)] w (Gives (.bool (knowsB l least t r)) w) := by
  have HB := Lib.hid (fun W h1 h2 => knownR_any l al capl r.skills r.a r.c t W h1 h2 hlen hsl hok)
  have hbd := best_bd (s := r.skills) t hlen hok
  have HV : Hid (knowsB l least t r = decide (least * (bestOf l r.skills t).2.2 ≤ 100 * (bestOf l r.skills t).2.1)) := rfl
  unfold becV at HB
  generalize knowsB l least t r = kb at *
  generalize bestOf l r.skills t = o at *
  obtain ⟨o1, o2, o3⟩ := o
  obtain ⟨⟨q1, q2⟩, q3, q4⟩ := hbd
  obtain ⟨y1, y2, y3, y4⟩ := r
  unfold encReader
  simp only at hs HB HV q1 q2 q3 q4 ⊢
  have hm1 : least * o3 ≤ 100 * o3 := Int.mul_le_mul_of_nonneg_right h2 (by omega)
  have hm2 : 0 ≤ least * o3 := Int.mul_nonneg (by omega) (by omega)
  obtain ⟨lo, hlo⟩ : ∃ x, least * o3 = x := ⟨_, rfl⟩
  rw [hlo] at hm1 hm2 HV
  have hw1 : IntKind.i64.wrap (100 * o2) = 100 * o2 := IntWalk.i64_in _ (by omega)
  have hw2 : IntKind.i64.wrap (least * o3) = lo := by rw [hlo]; exact IntWalk.i64_in _ (by omega)
  have hb1 : Below w.heap.size w (w.alloc (.cells #[.string y1, .slice y3 y2.length y4] 92)) := by (repeat' (first | exact Below.refl _ _ | assumption | refine Below.setCell ?_ ?_ _ | refine below_drewN ?_ _ | refine Below.drew ?_ | refine Below.alloc ?_ ?_ _ | (with_reducible refine Below.trans ?_ (Below.mono hb ?_)) | (with_reducible refine Below.trans ?_ (Below.mono hb0 ?_)) | (with_reducible refine Below.trans ?_ (Below.mono hb1 ?_)) | (with_reducible refine Below.trans ?_ (Below.mono hb2 ?_)) | (with_reducible refine Below.trans ?_ (Below.mono hb3 ?_)) | (with_reducible refine Below.trans ?_ (Below.mono hb4 ?_)) | (with_reducible refine Below.trans ?_ (Below.mono hb5 ?_)) | (with_reducible refine Below.trans ?_ (Below.mono hb6 ?_)) | (with_reducible refine Below.trans ?_ (Below.mono hb7 ?_)) | (with_reducible refine Below.trans ?_ (Below.mono hb8 ?_)) | (with_reducible refine Below.trans ?_ (Below.mono hb9 ?_)) | (with_reducible refine Below.trans ?_ (Below.mono hb10 ?_)) | (with_reducible refine Below.trans ?_ (Below.mono hb11 ?_)) | (with_reducible refine Below.trans ?_ (Below.mono hb12 ?_)) | (with_reducible refine Below.trans ?_ (Below.mono hb13 ?_)) | (with_reducible refine Below.trans ?_ (Below.mono hb14 ?_)) | (with_reducible refine Below.trans ?_ (Below.mono hb15 ?_)) | omega | (simp; done) | (simp; omega)))
  have hB := (Box.new w 92 #[.string y1, .slice y3 y2.length y4]).cell 1
  have hxc1 := cell_later hb1 hxc
  have htc1 := cell_later hb1 htc
  have hfp := becPart t o1 o2 o3
  go_enter Tryz.func92, Tryz.ntmps92
  go_wp2_with fail
  refine (HB.out _ (hl.below hb1) (hs.below hb1)).mono ?_
  rintro e w3 ⟨rfl, hb3⟩
  have hb13 := below_next hb1 hb3
  have hz3 := hb13.size
  have hF4 := Box.new w3 37 #[.int .i64 o2, .int .i64 o3]
  have hbS : Below w.heap.size w (w3.alloc (.cells #[.int .i64 o2, .int .i64 o3] 37)) := by (repeat' (first | exact Below.refl _ _ | assumption | refine Below.setCell ?_ ?_ _ | refine below_drewN ?_ _ | refine Below.drew ?_ | refine Below.alloc ?_ ?_ _ | (with_reducible refine Below.trans ?_ (Below.mono hb ?_)) | (with_reducible refine Below.trans ?_ (Below.mono hb0 ?_)) | (with_reducible refine Below.trans ?_ (Below.mono hb1 ?_)) | (with_reducible refine Below.trans ?_ (Below.mono hb2 ?_)) | (with_reducible refine Below.trans ?_ (Below.mono hb3 ?_)) | (with_reducible refine Below.trans ?_ (Below.mono hb4 ?_)) | (with_reducible refine Below.trans ?_ (Below.mono hb5 ?_)) | (with_reducible refine Below.trans ?_ (Below.mono hb6 ?_)) | (with_reducible refine Below.trans ?_ (Below.mono hb7 ?_)) | (with_reducible refine Below.trans ?_ (Below.mono hb8 ?_)) | (with_reducible refine Below.trans ?_ (Below.mono hb9 ?_)) | (with_reducible refine Below.trans ?_ (Below.mono hb10 ?_)) | (with_reducible refine Below.trans ?_ (Below.mono hb11 ?_)) | (with_reducible refine Below.trans ?_ (Below.mono hb12 ?_)) | (with_reducible refine Below.trans ?_ (Below.mono hb13 ?_)) | (with_reducible refine Below.trans ?_ (Below.mono hb14 ?_)) | (with_reducible refine Below.trans ?_ (Below.mono hb15 ?_)) | omega | (simp; done) | (simp; omega)))
  have hlc4 := cell_later hbS hlc
  have hF4_l := hF4.lt; have hF4_0 := hF4.cell 0; have hF4_1 := hF4.cell 1; simp at hF4_0 hF4_1
  go_wp2_with fail
  go_ret
  exact ⟨by rw [HV.out] <;> rfl, hbS⟩
/-- The topics that no reader knows. -/
def uncL (l : List Topic) (rs : List Reader) (least : Int) (ts : List ByteArray) : List ByteArray := ts.filter (fun t => !(rs.any (knowsB l least t)))
theorem uncL_snoc (l : List Topic) (rs : List Reader) (least : Int) {ts : List ByteArray} {k : Nat} (hk : k < ts.length) : uncL l rs least (ts.take (k + 1)) = if rs.any (knowsB l least ts[k]) = true then uncL l rs least (ts.take k) else uncL l rs least (ts.take k) ++ [ts[k]] := by
  unfold uncL
  rw [List.take_succ_eq_append_getElem hk, List.filter_append]
  cases h : rs.any (knowsB l least ts[k]) <;> simp [h]
theorem uncL_len (l : List Topic) (rs : List Reader) (least : Int) (ts : List ByteArray) : (uncL l rs least ts).length ≤ ts.length := List.length_filter_le _ _
def uncX (l : List Topic) (ps : List Paper) (rs : List Reader) (least : Int) : Int := if fieldE l ps rs [] ≠ 0 then fieldE l ps rs [] else if least < 1 ∨ 100 < least then 1 else 0
def uncO (l : List Topic) (ps : List Paper) (rs : List Reader) (least : Int) : List ByteArray := if uncX l ps rs least = 0 then uncL l rs least (keysS (allT ps)) else []
set_option maxRecDepth 100000 in
set_option maxHeartbeats 8000000 in
theorem uncoveredOf_any (l : List Topic) (al : Option Addr) (capl : Nat) (ps : List Paper) (pa : Option Addr) (pc : Nat) (rs : List Reader) (ra : Option Addr) (rc : Nat) (least : Int) (w : World) (hl : SA w al l) (hP : PapersAt w pa ps) (hR : ReadersAt w ra rs) (hlen : l.length ≤ 1000) (hpl : ps.length ≤ 1000) (hsm : ∀ p ∈ ps, PSmall p) (hrl : rs.length ≤ 1000) (hrm : ∀ r ∈ rs, RSmall r ∧ SkillOk l r.skills) (h1 : 1 ≤ least) (h2 : least ≤ 100) :
    Calls Tryz.prog 35 #[.slice al l.length capl, .slice pa ps.length pc, .slice ra rs.length rc, .int .i64 least] w (GivesOwn 9 (uncL l rs least (keysS (allT ps))) w) := by
  have hb1 : Below w.heap.size w (w.alloc (.cells #[.slice al l.length capl] 26)) := by (repeat' (first | exact Below.refl _ _ | assumption | refine Below.setCell ?_ ?_ _ | refine below_drewN ?_ _ | refine Below.drew ?_ | refine Below.alloc ?_ ?_ _ | (with_reducible refine Below.trans ?_ (Below.mono hb ?_)) | (with_reducible refine Below.trans ?_ (Below.mono hb0 ?_)) | (with_reducible refine Below.trans ?_ (Below.mono hb1 ?_)) | (with_reducible refine Below.trans ?_ (Below.mono hb2 ?_)) | (with_reducible refine Below.trans ?_ (Below.mono hb3 ?_)) | (with_reducible refine Below.trans ?_ (Below.mono hb4 ?_)) | (with_reducible refine Below.trans ?_ (Below.mono hb5 ?_)) | (with_reducible refine Below.trans ?_ (Below.mono hb6 ?_)) | (with_reducible refine Below.trans ?_ (Below.mono hb7 ?_)) | (with_reducible refine Below.trans ?_ (Below.mono hb8 ?_)) | (with_reducible refine Below.trans ?_ (Below.mono hb9 ?_)) | (with_reducible refine Below.trans ?_ (Below.mono hb10 ?_)) | (with_reducible refine Below.trans ?_ (Below.mono hb11 ?_)) | (with_reducible refine Below.trans ?_ (Below.mono hb12 ?_)) | (with_reducible refine Below.trans ?_ (Below.mono hb13 ?_)) | (with_reducible refine Below.trans ?_ (Below.mono hb14 ?_)) | (with_reducible refine Below.trans ?_ (Below.mono hb15 ?_)) | omega | (simp; done) | (simp; omega)))
  have hb2 : Below w.heap.size w ((w.alloc (.cells #[.slice al l.length capl] 26)).alloc (.cells #[.int .i64 least] 3)) := by (repeat' (first | exact Below.refl _ _ | assumption | refine Below.setCell ?_ ?_ _ | refine below_drewN ?_ _ | refine Below.drew ?_ | refine Below.alloc ?_ ?_ _ | (with_reducible refine Below.trans ?_ (Below.mono hb ?_)) | (with_reducible refine Below.trans ?_ (Below.mono hb0 ?_)) | (with_reducible refine Below.trans ?_ (Below.mono hb1 ?_)) | (with_reducible refine Below.trans ?_ (Below.mono hb2 ?_)) | (with_reducible refine Below.trans ?_ (Below.mono hb3 ?_)) | (with_reducible refine Below.trans ?_ (Below.mono hb4 ?_)) | (with_reducible refine Below.trans ?_ (Below.mono hb5 ?_)) | (with_reducible refine Below.trans ?_ (Below.mono hb6 ?_)) | (with_reducible refine Below.trans ?_ (Below.mono hb7 ?_)) | (with_reducible refine Below.trans ?_ (Below.mono hb8 ?_)) | (with_reducible refine Below.trans ?_ (Below.mono hb9 ?_)) | (with_reducible refine Below.trans ?_ (Below.mono hb10 ?_)) | (with_reducible refine Below.trans ?_ (Below.mono hb11 ?_)) | (with_reducible refine Below.trans ?_ (Below.mono hb12 ?_)) | (with_reducible refine Below.trans ?_ (Below.mono hb13 ?_)) | (with_reducible refine Below.trans ?_ (Below.mono hb14 ?_)) | (with_reducible refine Below.trans ?_ (Below.mono hb15 ?_)) | omega | (simp; done) | (simp; omega)))
  have hX := (Box.new w 26 #[.slice al l.length capl]).alloc (.cells #[.int .i64 least] 3)
  have hL := Box.newAt (w.alloc (.cells #[.slice al l.length capl] 26)) (w.heap.size + 1) 3 #[.int .i64 least] (by simp)
  have HT := Lib.hid (topicsIn_any ps pa pc _ (hP.below hb2) hpl hsm)
  have HSn := Lib.hid (fun k hk => uncL_snoc l rs least (ts := keysS (allT ps)) (k := k) hk)
  have HLn := Lib.hid (fun k => uncL_len l rs least ((keysS (allT ps)).take k))
  have Hfin := Lib.hid (show uncL l rs least ((keysS (allT ps)).take (keysS (allT ps)).length) = uncL l rs least (keysS (allT ps)) by rw [List.take_length])
  have HL0 := Lib.hid (show uncL l rs least ((keysS (allT ps)).take 0) = [] from rfl)
  have hkl : (keysS (allT ps)).length ≤ 1000000 := by
    have h1 := keysS_length (allT ps)
    have h2 := allT_bd hpl hsm ps.length
    rw [List.take_length] at h2
    omega
  generalize keysS (allT ps) = K at *
  have hl2 := hl.below hb2
  have hR2 := hR.below hb2
  go_enter Tryz.func35, Tryz.ntmps35
  go_wp2_with fail
  refine HT.out.mono ?_
  rintro e W4 ⟨v4, rfl, hown4, hb4⟩
  obtain ⟨ka, kc, rfl, hka, -, -⟩ := hown4.sa
  have hl4 := hl2.below hb4
  have hR4 := hR2.below hb4
  have hX4 := hX.below hb4
  have hL4 := hL.below hb4
  have hb04 := below_next hb2 hb4
  clear HT hP hR hown4 hl hl2 hR2 hX hL hb4 hb2 hb1
  go_wp2_with fail
  go_loopg [9, 15] K.length (fun gk v i wr => ∃ k : Nat, i = .int .i64 k ∧ k ≤ K.length ∧ Hid (gk = K.length - k) ∧ Own W4.heap.size 9 wr v (uncL l rs least (K.take k)) ∧ Below W4.heap.size W4 wr)
  case atStart => exact ⟨0, rfl, by omega, rfl, by rw [HL0.out]; exact Own.nil _ _ _, Below.refl _ _⟩
  obtain ⟨k, rfl, hk, hgk, hown, hb⟩ := hrel
  have hzr := hb.size
  by_cases hlt : k < K.length
  · obtain ⟨cb, coff, hca, c0⟩ := (hka.below hb).str hlt
    have HSt := Lib.hid (HSn.out k hlt)
    have hal := HLn.out k
    rw [List.length_take] at hal
    have Ha := Lib.hid hca
    rw [hca]
    clear hca
    generalize K[k] = t at *
    obtain ⟨acc2, ha2⟩ : ∃ a, uncL l rs least (K.take (k + 1)) = a := ⟨_, rfl⟩
    rw [ha2] at HSt
    have HA2 := Lib.hid ha2
    clear ha2
    generalize uncL l rs least (K.take k) = acc at *
    have hk1 : (0 : Int) ≤ (k : Int) := by omega
    have hk2 : (k : Int) < (K.length : Int) := by omega
    have hbp : Below W4.heap.size W4 (wr.alloc (.cells #[.string t] 9)) := by (repeat' (first | exact Below.refl _ _ | assumption | refine Below.setCell ?_ ?_ _ | refine below_drewN ?_ _ | refine Below.drew ?_ | refine Below.alloc ?_ ?_ _ | (with_reducible refine Below.trans ?_ (Below.mono hb ?_)) | (with_reducible refine Below.trans ?_ (Below.mono hb0 ?_)) | (with_reducible refine Below.trans ?_ (Below.mono hb1 ?_)) | (with_reducible refine Below.trans ?_ (Below.mono hb2 ?_)) | (with_reducible refine Below.trans ?_ (Below.mono hb3 ?_)) | (with_reducible refine Below.trans ?_ (Below.mono hb4 ?_)) | (with_reducible refine Below.trans ?_ (Below.mono hb5 ?_)) | (with_reducible refine Below.trans ?_ (Below.mono hb6 ?_)) | (with_reducible refine Below.trans ?_ (Below.mono hb7 ?_)) | (with_reducible refine Below.trans ?_ (Below.mono hb8 ?_)) | (with_reducible refine Below.trans ?_ (Below.mono hb9 ?_)) | (with_reducible refine Below.trans ?_ (Below.mono hb10 ?_)) | (with_reducible refine Below.trans ?_ (Below.mono hb11 ?_)) | (with_reducible refine Below.trans ?_ (Below.mono hb12 ?_)) | (with_reducible refine Below.trans ?_ (Below.mono hb13 ?_)) | (with_reducible refine Below.trans ?_ (Below.mono hb14 ?_)) | (with_reducible refine Below.trans ?_ (Below.mono hb15 ?_)) | omega | (simp; done) | (simp; omega)))
    have hTp := Box.new wr 9 #[.string t]
    have hownp := hown.alloc (.cells #[.string t] 9)
    have HFd := Lib.hid (findReader_any rs ra rc 92 #[.pointer (some ⟨w.heap.size, 0, none⟩), .pointer (some ⟨wr.heap.size, 0, none⟩), .pointer (some ⟨w.heap.size + 1, 0, none⟩)] (knowsB l least t) _ (enters_of Tryz.func92 (by kernel_rfl) rfl) (hR4.below hbp).1 (by omega) (fun r hr W' hb' => uncOfClo_any l al capl w.heap.size wr.heap.size (w.heap.size + 1) t least r W' ((hl4.below hbp).below hb') (((hX4.below hbp).below hb').cell 0) ((hTp.below hb').cell 0) (((hL4.below hbp).below hb').cell 0) (((hR4.2 r hr).below hbp).below hb') hlen (by have := (hrm r hr).1.2; omega) (hrm r hr).2 h1 h2))
    clear hown
    go_wp2_with fail
    refine HFd.out.mono ?_
    rintro e w6 ⟨rfl, hb6⟩
    have hbp6 := below_next hbp hb6
    have hown6 := hownp.below hb6
    have hz6 := hbp6.size
    have hT6 := (hTp.below hb6).cell 0
    clear HFd hTp hownp hb6 hbp
    cases hg : rs.any (knowsB l least t)
    · have HSt2 := Lib.hid (HSt.out.trans (if_neg (by rw [hg]; decide)))
      have hown1 := hown6.alloc (.cells #[.string t] 9)
      have hbo := Box.new w6 9 #[.string t]
      have hba : Below W4.heap.size W4 (w6.alloc (.cells #[.string t] 9)) := by (repeat' (first | exact Below.refl _ _ | assumption | refine Below.setCell ?_ ?_ _ | refine below_drewN ?_ _ | refine Below.drew ?_ | refine Below.alloc ?_ ?_ _ | (with_reducible refine Below.trans ?_ (Below.mono hb ?_)) | (with_reducible refine Below.trans ?_ (Below.mono hb0 ?_)) | (with_reducible refine Below.trans ?_ (Below.mono hb1 ?_)) | (with_reducible refine Below.trans ?_ (Below.mono hb2 ?_)) | (with_reducible refine Below.trans ?_ (Below.mono hb3 ?_)) | (with_reducible refine Below.trans ?_ (Below.mono hb4 ?_)) | (with_reducible refine Below.trans ?_ (Below.mono hb5 ?_)) | (with_reducible refine Below.trans ?_ (Below.mono hb6 ?_)) | (with_reducible refine Below.trans ?_ (Below.mono hb7 ?_)) | (with_reducible refine Below.trans ?_ (Below.mono hb8 ?_)) | (with_reducible refine Below.trans ?_ (Below.mono hb9 ?_)) | (with_reducible refine Below.trans ?_ (Below.mono hb10 ?_)) | (with_reducible refine Below.trans ?_ (Below.mono hb11 ?_)) | (with_reducible refine Below.trans ?_ (Below.mono hb12 ?_)) | (with_reducible refine Below.trans ?_ (Below.mono hb13 ?_)) | (with_reducible refine Below.trans ?_ (Below.mono hb14 ?_)) | (with_reducible refine Below.trans ?_ (Below.mono hb15 ?_)) | omega | (simp; done) | (simp; omega)))
      have Hol := Lib.hid hown6.lt
      clear hg HSt hown6
      go_wp2_with (at_builtin; refine wpList_append_lie (α := ByteArray) rfl _ _ 52 rfl 9 16 (.string ⟨#[]⟩) Tryz.underlying52 Tryz.infoString rfl _ acc rfl hown1 t _ rfl hbo (by omega) (by omega) (by simp; omega) ?_; intro g9 cap9 w5 hown5 hg5 hat5)
      have hb5 := hba.grown hg5 (by simp; omega) (fun j hj => (Hol.out j hj).1)
      rw [← HSt2.out] at hown5
      rw [← Ha.out]
      (try go_wp2_with fail)
      go_roundg (K.length - (k + 1))
      case measure => have := hgk.out; omega
      case rel => exact ⟨k + 1, by go_num, by omega, rfl, by rw [HA2.out]; exact hown5, hb5⟩
    · have HSt2 := Lib.hid (HSt.out.trans (if_pos hg))
      clear hg HSt
      go_wp2_with fail
      rw [← Ha.out]
      go_roundg (K.length - (k + 1))
      case measure => have := hgk.out; omega
      case rel => exact ⟨k + 1, by go_num, by omega, rfl, by rw [HA2.out, HSt2.out]; exact hown6, hbp6⟩
  · obtain rfl : k = K.length := by omega
    skip
    rw [Hfin.out] at hown
    go_wp2_with fail
    go_ret
    exact ⟨_, rfl, hown.mono (by have := hb04.size; omega), below_next hb04 hb⟩
set_option maxRecDepth 100000 in
set_option maxHeartbeats 8000000 in
theorem uncovered_any (l : List Topic) (al : Option Addr) (capl : Nat) (ps : List Paper) (pa : Option Addr) (pc : Nat) (rs : List Reader) (ra : Option Addr) (rc : Nat) (least : Int) (w : World) (hE0 : Env w) (hl : SA w al l) (hP : PapersAt w pa ps) (hR : ReadersAt w ra rs)
    (hlen : l.length ≤ 1000000) (hsT : SmallT l) (hpl : ps.length ≤ 1000) (hsm : ∀ p ∈ ps, PSmall p) (hrl : rs.length ≤ 1000) (hrm : ∀ r ∈ rs, RSmall r) :
    Calls Tryz.prog 31 #[.slice al l.length capl, .slice pa ps.length pc, .slice ra rs.length rc, .int .i64 least] w (GivesL (uncX l ps rs least) (uncO l ps rs least) w) := by
  have hb0 : Below w.heap.size w (w.alloc (.cells #[.int .i64 least] 3)) := by (repeat' (first | exact Below.refl _ _ | assumption | refine Below.setCell ?_ ?_ _ | refine below_drewN ?_ _ | refine Below.drew ?_ | refine Below.alloc ?_ ?_ _ | (with_reducible refine Below.trans ?_ (Below.mono hb ?_)) | (with_reducible refine Below.trans ?_ (Below.mono hb0 ?_)) | (with_reducible refine Below.trans ?_ (Below.mono hb1 ?_)) | (with_reducible refine Below.trans ?_ (Below.mono hb2 ?_)) | (with_reducible refine Below.trans ?_ (Below.mono hb3 ?_)) | (with_reducible refine Below.trans ?_ (Below.mono hb4 ?_)) | (with_reducible refine Below.trans ?_ (Below.mono hb5 ?_)) | (with_reducible refine Below.trans ?_ (Below.mono hb6 ?_)) | (with_reducible refine Below.trans ?_ (Below.mono hb7 ?_)) | (with_reducible refine Below.trans ?_ (Below.mono hb8 ?_)) | (with_reducible refine Below.trans ?_ (Below.mono hb9 ?_)) | (with_reducible refine Below.trans ?_ (Below.mono hb10 ?_)) | (with_reducible refine Below.trans ?_ (Below.mono hb11 ?_)) | (with_reducible refine Below.trans ?_ (Below.mono hb12 ?_)) | (with_reducible refine Below.trans ?_ (Below.mono hb13 ?_)) | (with_reducible refine Below.trans ?_ (Below.mono hb14 ?_)) | (with_reducible refine Below.trans ?_ (Below.mono hb15 ?_)) | omega | (simp; done) | (simp; omega)))
  have hLc := Box.new w 3 #[.int .i64 least]
  have hP0 := hP.below hb0
  have hR0 := hR.below hb0
  have HF : Hid (Calls Tryz.prog 73 #[.slice al l.length capl, .slice pa ps.length pc, .slice ra rs.length rc, .slice none 0 0] _ (GivesField (fieldE l ps rs []) l ps pa pc rs ra rc [] _)) := fieldOf_any l al capl ps pa pc rs ra rc [] none 0 _ (hE0.below hb0) (hl.below hb0) hP0 hR0 (.inl rfl) hlen hsT hpl hsm hrl hrm (by simp) (fun x hx => by cases hx)
  have HRt := Lib.hid (fun h => field_right (l := l) (ps := ps) (rs := rs) (bs := []) h)
  have HX1 : Hid (fieldE l ps rs [] ≠ 0 → uncX l ps rs least = fieldE l ps rs []) := fun h => by unfold uncX; rw [if_pos h]
  have HX2 : Hid (fieldE l ps rs [] = 0 → uncX l ps rs least = if least < 1 ∨ 100 < least then 1 else 0) := fun h => by unfold uncX; rw [if_neg (by simpa using h)]
  have HO1 : Hid (uncX l ps rs least ≠ 0 → uncO l ps rs least = []) := fun h => by unfold uncO; rw [if_neg h]
  have HO2 : Hid (uncX l ps rs least = 0 → uncO l ps rs least = uncL l rs least (keysS (allT ps))) := fun h => by unfold uncO; rw [if_pos h]
  have HSn := Lib.hid (fun k hk => uncL_snoc l rs least (ts := keysS (allT ps)) (k := k) hk)
  have HLn := Lib.hid (fun k => uncL_len l rs least ((keysS (allT ps)).take k))
  have Hfin := Lib.hid (show uncL l rs least ((keysS (allT ps)).take (keysS (allT ps)).length) = uncL l rs least (keysS (allT ps)) by rw [List.take_length])
  have HL0 := Lib.hid (show uncL l rs least ((keysS (allT ps)).take 0) = [] from rfl)
  have hatl : (allT ps).length ≤ 1000000 := by have h2 := allT_bd hpl hsm ps.length; rwa [List.take_length] at h2
  have hkl : (keysS (allT ps)).length ≤ 1000000 := by have h1 := keysS_length (allT ps); omega
  have HC := Lib.hid (fun W (h : PapersAt W pa ps) => counts_any ps pa pc W h hpl hsm)
  have HKs := Lib.hid (fun b es W (h : MBox W b es) (hC : CntM es (allT ps)) => keysCnt_any b es (allT ps) W h hC hatl (allT_small hsm))
  generalize keysS (allT ps) = K at *
  generalize uncX l ps rs least = bx at *
  generalize uncO l ps rs least = out at *
  generalize fieldE l ps rs [] = er at *
  go_enter Tryz.func31, Tryz.ntmps31
  go_wp2_with fail
  refine HF.out.mono ?_
  rintro e W1 ⟨hb1, hcase⟩
  have hbw1 := below_next hb0 hb1
  have hz1 := hbw1.size
  rcases hcase with ⟨hne, rfl⟩ | ⟨h0, xb, rfl, hX⟩
  · have hq : (er != 0) = true := by simpa using hne
    have Her := Lib.hid (HX1.out hne)
    have Hout := Lib.hid (HO1.out (by rw [Her.out]; exact hne))
    have hbz : Below w.heap.size w (W1.alloc (.cells #[.pointer none] 118)) := by (repeat' (first | exact Below.refl _ _ | assumption | refine Below.setCell ?_ ?_ _ | refine below_drewN ?_ _ | refine Below.drew ?_ | refine Below.alloc ?_ ?_ _ | (with_reducible refine Below.trans ?_ (Below.mono hb ?_)) | (with_reducible refine Below.trans ?_ (Below.mono hb0 ?_)) | (with_reducible refine Below.trans ?_ (Below.mono hb1 ?_)) | (with_reducible refine Below.trans ?_ (Below.mono hb2 ?_)) | (with_reducible refine Below.trans ?_ (Below.mono hb3 ?_)) | (with_reducible refine Below.trans ?_ (Below.mono hb4 ?_)) | (with_reducible refine Below.trans ?_ (Below.mono hb5 ?_)) | (with_reducible refine Below.trans ?_ (Below.mono hb6 ?_)) | (with_reducible refine Below.trans ?_ (Below.mono hb7 ?_)) | (with_reducible refine Below.trans ?_ (Below.mono hb8 ?_)) | (with_reducible refine Below.trans ?_ (Below.mono hb9 ?_)) | (with_reducible refine Below.trans ?_ (Below.mono hb10 ?_)) | (with_reducible refine Below.trans ?_ (Below.mono hb11 ?_)) | (with_reducible refine Below.trans ?_ (Below.mono hb12 ?_)) | (with_reducible refine Below.trans ?_ (Below.mono hb13 ?_)) | (with_reducible refine Below.trans ?_ (Below.mono hb14 ?_)) | (with_reducible refine Below.trans ?_ (Below.mono hb15 ?_)) | omega | (simp; done) | (simp; omega)))
    clear hne HX1 HX2 HO1 HO2
    go_wp2_with fail
    go_ret2
    exact ⟨hbz, none, 0, by rw [Hout.out, Her.out]; rfl, .inl Hout.out⟩
  · subst h0
    obtain ⟨z1, z2, z3, z4, z5, z6⟩ := HRt.out rfl
    have hl1k := forest_len z1
    have Hok : Hid (∀ r ∈ rs, SkillOk l r.skills) := fun r hr => (skills_fit z1 (readers_right z4 r hr)).ok
    replace HX2 := Lib.hid (HX2.out rfl)
    obtain ⟨fb, lb, hX, hF, hG⟩ := hX
    have hb2 : Below w.heap.size w (W1.alloc (.cells #[.pointer (some ⟨xb, 0, none⟩)] 118)) := by (repeat' (first | exact Below.refl _ _ | assumption | refine Below.setCell ?_ ?_ _ | refine below_drewN ?_ _ | refine Below.drew ?_ | refine Below.alloc ?_ ?_ _ | (with_reducible refine Below.trans ?_ (Below.mono hb ?_)) | (with_reducible refine Below.trans ?_ (Below.mono hb0 ?_)) | (with_reducible refine Below.trans ?_ (Below.mono hb1 ?_)) | (with_reducible refine Below.trans ?_ (Below.mono hb2 ?_)) | (with_reducible refine Below.trans ?_ (Below.mono hb3 ?_)) | (with_reducible refine Below.trans ?_ (Below.mono hb4 ?_)) | (with_reducible refine Below.trans ?_ (Below.mono hb5 ?_)) | (with_reducible refine Below.trans ?_ (Below.mono hb6 ?_)) | (with_reducible refine Below.trans ?_ (Below.mono hb7 ?_)) | (with_reducible refine Below.trans ?_ (Below.mono hb8 ?_)) | (with_reducible refine Below.trans ?_ (Below.mono hb9 ?_)) | (with_reducible refine Below.trans ?_ (Below.mono hb10 ?_)) | (with_reducible refine Below.trans ?_ (Below.mono hb11 ?_)) | (with_reducible refine Below.trans ?_ (Below.mono hb12 ?_)) | (with_reducible refine Below.trans ?_ (Below.mono hb13 ?_)) | (with_reducible refine Below.trans ?_ (Below.mono hb14 ?_)) | (with_reducible refine Below.trans ?_ (Below.mono hb15 ?_)) | omega | (simp; done) | (simp; omega)))
    have hb12 : Below W1.heap.size W1 (W1.alloc (.cells #[.pointer (some ⟨xb, 0, none⟩)] 118)) := by (repeat' (first | exact Below.refl _ _ | assumption | refine Below.setCell ?_ ?_ _ | refine below_drewN ?_ _ | refine Below.drew ?_ | refine Below.alloc ?_ ?_ _ | (with_reducible refine Below.trans ?_ (Below.mono hb ?_)) | (with_reducible refine Below.trans ?_ (Below.mono hb0 ?_)) | (with_reducible refine Below.trans ?_ (Below.mono hb1 ?_)) | (with_reducible refine Below.trans ?_ (Below.mono hb2 ?_)) | (with_reducible refine Below.trans ?_ (Below.mono hb3 ?_)) | (with_reducible refine Below.trans ?_ (Below.mono hb4 ?_)) | (with_reducible refine Below.trans ?_ (Below.mono hb5 ?_)) | (with_reducible refine Below.trans ?_ (Below.mono hb6 ?_)) | (with_reducible refine Below.trans ?_ (Below.mono hb7 ?_)) | (with_reducible refine Below.trans ?_ (Below.mono hb8 ?_)) | (with_reducible refine Below.trans ?_ (Below.mono hb9 ?_)) | (with_reducible refine Below.trans ?_ (Below.mono hb10 ?_)) | (with_reducible refine Below.trans ?_ (Below.mono hb11 ?_)) | (with_reducible refine Below.trans ?_ (Below.mono hb12 ?_)) | (with_reducible refine Below.trans ?_ (Below.mono hb13 ?_)) | (with_reducible refine Below.trans ?_ (Below.mono hb14 ?_)) | (with_reducible refine Below.trans ?_ (Below.mono hb15 ?_)) | omega | (simp; done) | (simp; omega)))
    have hP2 := (hP0.below hb1).below hb12
    have hR2 := (hR0.below hb1).below hb12
    have hX2 := hX.below hb12
    have hF2 := hF.below hb12
    have hL2 := (hLc.below hb1).below hb12
    have hC2 := Box.new W1 118 #[.pointer (some ⟨xb, 0, none⟩)]
    have hL20 := hL2.cell 0
    clear HF HX1 HRt hX hF hG hP hR hE0 hl z1 z2 z3 z4 z5 z6 hP0 hR0 hLc
    by_cases hout : least < 1 ∨ 100 < least
    · have Her := Lib.hid (HX2.out.trans (if_pos hout))
      have Hout := Lib.hid (HO1.out (by rw [Her.out]; decide))
      clear HO1 HO2 HX2
      go_wp2_with fail
      refine (outside_yes least 1 100 _ hout).mono ?_
      rintro e w2 ⟨rfl, rfl⟩
      go_wp2_with fail
      go_ret2
      exact ⟨hb2, none, 0, by rw [Hout.out, Her.out]; rfl, .inl Hout.out⟩
    · have Her := Lib.hid (HX2.out.trans (if_neg hout))
      have Hout := Lib.hid (HO2.out Her.out)
      have h1 : 1 ≤ least := by omega
      have h2 : least ≤ 100 := by omega
      clear HO1 HO2 HX2 hout
      go_wp2_with fail
      refine (outside_no least 1 100 _ (by omega) (by omega)).mono ?_
      rintro e w2 ⟨rfl, rfl⟩
      clear hL20
      go_wp2_with fail
      refine (HC.out _ hP2).mono ?_
      rintro e W3 ⟨mb, es, rfl, hM, hCn, hb3⟩
      have HCn := Lib.hid hCn
      clear hCn
      go_wp2_with fail
      refine (HKs.out mb es _ hM HCn.out).mono ?_
      rintro e W4 ⟨v4, rfl, hown4, hb4⟩
      obtain ⟨ka, kc, rfl, hka, -, -⟩ := hown4.sa
      have hb34 := below_next hb3 hb4
      have hR4 := hR2.below hb34
      have hX4 := hX2.below hb34
      have hF4 := hF2.below hb34
      have hL4 := hL2.below hb34
      have hC4 := hC2.below hb34
      have hb04 := below_next hb2 hb34
      clear HC HKs hR2 hX2 hF2 hL2 hC2 hown4 hM hb3 hb4 hb34 hP2 hb2 hb12 hb1
      go_wp2_with fail
      go_loopg [12, 31] K.length (fun gk v i wr => ∃ k : Nat, i = .int .i64 k ∧ k ≤ K.length ∧ Hid (gk = K.length - k) ∧ Own W4.heap.size 9 wr v (uncL l rs least (K.take k)) ∧ Below W4.heap.size W4 wr)
      case atStart => exact ⟨0, rfl, by omega, rfl, by rw [HL0.out]; exact Own.nil _ _ _, Below.refl _ _⟩
      obtain ⟨k, rfl, hk, hgk, hown, hb⟩ := hrel
      have hzr := hb.size
      by_cases hlt : k < K.length
      · obtain ⟨cb, coff, hca, c0⟩ := (hka.below hb).str hlt
        have HSt := Lib.hid (HSn.out k hlt)
        have hal := HLn.out k
        rw [List.length_take] at hal
        have Ha := Lib.hid hca
        rw [hca]
        clear hca
        generalize K[k] = t at *
        obtain ⟨acc2, ha2⟩ : ∃ a, uncL l rs least (K.take (k + 1)) = a := ⟨_, rfl⟩
        rw [ha2] at HSt
        have HA2 := Lib.hid ha2
        clear ha2
        generalize uncL l rs least (K.take k) = acc at *
        have hk1 : (0 : Int) ≤ (k : Int) := by omega
        have hk2 : (k : Int) < (K.length : Int) := by omega
        have hbp : Below W4.heap.size W4 (wr.alloc (.cells #[.string t] 9)) := by (repeat' (first | exact Below.refl _ _ | assumption | refine Below.setCell ?_ ?_ _ | refine below_drewN ?_ _ | refine Below.drew ?_ | refine Below.alloc ?_ ?_ _ | (with_reducible refine Below.trans ?_ (Below.mono hb ?_)) | (with_reducible refine Below.trans ?_ (Below.mono hb0 ?_)) | (with_reducible refine Below.trans ?_ (Below.mono hb1 ?_)) | (with_reducible refine Below.trans ?_ (Below.mono hb2 ?_)) | (with_reducible refine Below.trans ?_ (Below.mono hb3 ?_)) | (with_reducible refine Below.trans ?_ (Below.mono hb4 ?_)) | (with_reducible refine Below.trans ?_ (Below.mono hb5 ?_)) | (with_reducible refine Below.trans ?_ (Below.mono hb6 ?_)) | (with_reducible refine Below.trans ?_ (Below.mono hb7 ?_)) | (with_reducible refine Below.trans ?_ (Below.mono hb8 ?_)) | (with_reducible refine Below.trans ?_ (Below.mono hb9 ?_)) | (with_reducible refine Below.trans ?_ (Below.mono hb10 ?_)) | (with_reducible refine Below.trans ?_ (Below.mono hb11 ?_)) | (with_reducible refine Below.trans ?_ (Below.mono hb12 ?_)) | (with_reducible refine Below.trans ?_ (Below.mono hb13 ?_)) | (with_reducible refine Below.trans ?_ (Below.mono hb14 ?_)) | (with_reducible refine Below.trans ?_ (Below.mono hb15 ?_)) | omega | (simp; done) | (simp; omega)))
        have hTp := Box.new wr 9 #[.string t]
        have hownp := hown.alloc (.cells #[.string t] 9)
        have HFd := Lib.hid (findReader_any rs ra rc 86 #[.pointer (some ⟨W1.heap.size, 0, none⟩), .pointer (some ⟨wr.heap.size, 0, none⟩), .pointer (some ⟨w.heap.size, 0, none⟩)] (knowsB l least t) _ (enters_of Tryz.func86 (by kernel_rfl) rfl) (hR4.below hbp).1 (by omega) (fun r hr W' hb' => uncClo_any l fb xb W1.heap.size wr.heap.size w.heap.size t least r W' (((hX4.below hbp).below hb').cell 0) ((hF4.below hbp).below hb') (((hC4.below hbp).below hb').cell 0) ((hTp.below hb').cell 0) (((hL4.below hbp).below hb').cell 0) (((hR4.2 r hr).below hbp).below hb') hl1k (by have := (hrm r hr).2; omega) (Hok.out r hr) h1 h2))
        clear hown
        go_wp2_with fail
        refine HFd.out.mono ?_
        rintro e w6 ⟨rfl, hb6⟩
        have hbp6 := below_next hbp hb6
        have hown6 := hownp.below hb6
        have hz6 := hbp6.size
        have hT6 := (hTp.below hb6).cell 0
        clear HFd hTp hownp hb6 hbp
        cases hg : rs.any (knowsB l least t)
        · have HSt2 := Lib.hid (HSt.out.trans (if_neg (by rw [hg]; decide)))
          have hown1 := hown6.alloc (.cells #[.string t] 9)
          have hbo := Box.new w6 9 #[.string t]
          have hba : Below W4.heap.size W4 (w6.alloc (.cells #[.string t] 9)) := by (repeat' (first | exact Below.refl _ _ | assumption | refine Below.setCell ?_ ?_ _ | refine below_drewN ?_ _ | refine Below.drew ?_ | refine Below.alloc ?_ ?_ _ | (with_reducible refine Below.trans ?_ (Below.mono hb ?_)) | (with_reducible refine Below.trans ?_ (Below.mono hb0 ?_)) | (with_reducible refine Below.trans ?_ (Below.mono hb1 ?_)) | (with_reducible refine Below.trans ?_ (Below.mono hb2 ?_)) | (with_reducible refine Below.trans ?_ (Below.mono hb3 ?_)) | (with_reducible refine Below.trans ?_ (Below.mono hb4 ?_)) | (with_reducible refine Below.trans ?_ (Below.mono hb5 ?_)) | (with_reducible refine Below.trans ?_ (Below.mono hb6 ?_)) | (with_reducible refine Below.trans ?_ (Below.mono hb7 ?_)) | (with_reducible refine Below.trans ?_ (Below.mono hb8 ?_)) | (with_reducible refine Below.trans ?_ (Below.mono hb9 ?_)) | (with_reducible refine Below.trans ?_ (Below.mono hb10 ?_)) | (with_reducible refine Below.trans ?_ (Below.mono hb11 ?_)) | (with_reducible refine Below.trans ?_ (Below.mono hb12 ?_)) | (with_reducible refine Below.trans ?_ (Below.mono hb13 ?_)) | (with_reducible refine Below.trans ?_ (Below.mono hb14 ?_)) | (with_reducible refine Below.trans ?_ (Below.mono hb15 ?_)) | omega | (simp; done) | (simp; omega)))
          have Hol := Lib.hid hown6.lt
          clear hg HSt hown6
          go_wp2_with (at_builtin; refine wpList_append_lie (α := ByteArray) rfl _ _ 52 rfl 9 16 (.string ⟨#[]⟩) Tryz.underlying52 Tryz.infoString rfl _ acc rfl hown1 t _ rfl hbo (by omega) (by omega) (by simp; omega) ?_; intro g9 cap9 w5 hown5 hg5 hat5)
          have hb5 := hba.grown hg5 (by simp; omega) (fun j hj => (Hol.out j hj).1)
          rw [← HSt2.out] at hown5
          rw [← Ha.out]
          (try go_wp2_with fail)
          go_roundg (K.length - (k + 1))
          case measure => have := hgk.out; omega
          case rel => exact ⟨k + 1, by go_num, by omega, rfl, by rw [HA2.out]; exact hown5, hb5⟩
        · have HSt2 := Lib.hid (HSt.out.trans (if_pos hg))
          clear hg HSt
          go_wp2_with fail
          rw [← Ha.out]
          go_roundg (K.length - (k + 1))
          case measure => have := hgk.out; omega
          case rel => exact ⟨k + 1, by go_num, by omega, rfl, by rw [HA2.out, HSt2.out]; exact hown6, hbp6⟩
      · obtain rfl : k = K.length := by omega
        skip
        rw [Hfin.out, ← Hout.out] at hown
        obtain ⟨oa, oc, rfl, hoa, -, -⟩ := hown.sa
        go_wp2_with fail
        go_ret2
        exact ⟨below_next hb04 hb, oa, oc, by rw [Her.out] <;> rfl, hoa⟩
end Go.Proofs.YtpgofjjcmldhpaaGreatDoor

/-! Topics for which there are too few readers. -/
namespace Go.Proofs.YtpgofjjcmldhpaaGreatDoor
open Go.RowKit
set_option linter.unusedVariables false
set_option linter.unusedSimpArgs false

/-- A string and two numbers. -/
abbrev Trio := ByteArray × Int × Int
instance : Cel Trio := ⟨3, fun t => [.string t.1, .int .i64 t.2.1, .int .i64 t.2.2], fun _ => rfl, by decide, by simp [Value.oneCell']⟩
theorem SA.trio {w : World} {a : Option Addr} {l : List Trio} (h : SA w a l) {i : Nat} (hi : i < l.length) :
    ∃ b off, a = some ⟨b, off, none⟩ ∧ w.cell? ⟨b, off + i * 3, none⟩ = some (.string l[i].1) ∧ w.cell? ⟨b, off + i * 3 + 1, none⟩ = some (.int .i64 l[i].2.1) ∧ w.cell? ⟨b, off + i * 3 + 2, none⟩ = some (.int .i64 l[i].2.2) := by
  obtain ⟨b, off, ha, hc⟩ := h.at hi
  exact ⟨b, off, ha, hc 0 (by decide), hc 1 (by decide), hc 2 (by decide)⟩
theorem Tryz.infoShort : (Tryz.prog.info? 72).map (fun i => (i.zero, i.size, i.bytes)) = some (some (.agg #[.string ⟨#[]⟩, .int .i64 0, .int .i64 0]), 3, 32) := by kernel_rfl
def encSkill (x : Skill) : Value := .agg #[.string x.1, .int .i64 x.2]
set_option maxRecDepth 100000 in
set_option maxHeartbeats 4000000 in
theorem indexSkill_any (l : List Skill) (a : Option Addr) (cap g : Nat) (lb : Array Value) (c : Skill → Bool) (w : World) (eg : ∀ args w, (callFunc g args).run Tryz.prog w = .ok (.enter g args) w) (h : SA w a l) (hlen : l.length ≤ 1000000000) (hc : TestAt encSkill g lb c l w) :
    Calls Tryz.prog 125 #[.slice a l.length cap, .func (.func g) #[] lb] w (fun e w' => ∃ r : Int, e = .returned (.int .i64 r) ∧ decide (0 ≤ r) = l.any c ∧ Below w.heap.size w w' ∧ r = idxI c l) := by
  have HC := Lib.hid hc
  clear hc
  go_enter Tryz.func125, Tryz.ntmps125
  go_wp2_with fail
  go_loopg [8] l.length (fun gk i wr => ∃ k : Nat, i = .int .i64 k ∧ k ≤ l.length ∧ Hid (gk = l.length - k) ∧ Hid (∀ x ∈ l.take k, c x = false) ∧ Below w.heap.size w wr)
  case atStart => exact ⟨0, rfl, by omega, rfl, fun x hx => (by cases hx), Below.refl _ _⟩
  case round =>
    obtain ⟨k, rfl, hk, hgk, hf, hb⟩ := hrel
    by_cases hlt : k < l.length
    · obtain ⟨b, off, ha, c0, c1⟩ := (h.below hb).skill hlt
      have HCx := Lib.hid (HC.out l[k] (List.getElem_mem hlt) wr hb)
      have Hat := Lib.hid (any_at (c := c) hlt)
      have Htk := Lib.hid (List.take_succ_eq_append_getElem hlt)
      have Hix := Lib.hid (fun h => idxI_at (c := c) hlt h hf.out)
      have Ha := Lib.hid ha
      rw [ha]
      clear ha
      generalize l[k] = x at *
      obtain ⟨x1, x2⟩ := x
      (try simp only at *)
      have hk1 : (0 : Int) ≤ (k : Int) := by omega
      have hk2 : (k : Int) < (l.length : Int) := by omega
      obtain ⟨cx, hcx⟩ : ∃ cx, c ⟨x1, x2⟩ = cx := ⟨_, rfl⟩
      rw [hcx] at HCx Hat Hix
      have Hcx := Lib.hid hcx
      clear hcx
      go_wp2_with fail
      refine HCx.out.mono ?_
      rintro e w1 ⟨rfl, hb1⟩
      have hb1' := below_next hb hb1
      cases cx
      · go_wp2_with fail
        rw [← Ha.out]
        go_roundg (l.length - (k + 1))
        case measure => have := hgk.out; omega
        case rel => exact ⟨k + 1, by go_num, by omega, rfl, by rw [Htk.out]; exact fun x hx => (List.mem_append.1 hx).elim (hf.out x) (fun h => by rw [List.mem_singleton.1 h]; exact Hcx.out), hb1'⟩
      · have Hany := Lib.hid (Hat.out rfl)
        have Hr := Lib.hid (Hix.out rfl)
        go_wp2_with fail
        go_ret
        exact ⟨_, rfl, by rw [Hany.out]; exact decide_eq_true hk1, hb1', Hr.out.symm⟩
    · obtain rfl : k = l.length := by omega
      have Hany := Lib.hid (any_none hf.out)
      have Hr := Lib.hid (idxI_none hf.out)
      go_wp2_with fail
      go_ret
      exact ⟨_, rfl, by rw [Hany.out]; rfl, hb, Hr.out.symm⟩
set_option maxHeartbeats 4000000 in
theorem findSkill_any (l : List Skill) (a : Option Addr) (cap g : Nat) (lb : Array Value) (c : Skill → Bool) (w : World) (eg : ∀ args w, (callFunc g args).run Tryz.prog w = .ok (.enter g args) w) (h : SA w a l) (hlen : l.length ≤ 1000000000) (hc : TestAt encSkill g lb c l w) :
    Calls Tryz.prog 88 #[.slice a l.length cap, .func (.func g) #[] lb] w (Gives (.bool (l.any c)) w) := by
  have HI := Lib.hid (indexSkill_any l a cap g lb c w eg h hlen hc)
  clear hc
  go_enter Tryz.func88, Tryz.ntmps88
  go_wp2_with fail
  refine HI.out.mono ?_
  rintro e w1 ⟨r, rfl, hr, hb, hri⟩
  clear hri
  go_wp2_with fail
  go_ret
  exact ⟨by rw [← hr] <;> rfl, hb⟩
/-- A skill is good enough. -/
def goodS (t : ByteArray) (x : Skill) : Bool := decide (x.1 = t) && decide (50 ≤ x.2)
set_option maxHeartbeats 1000000 in
theorem lackClo_any (x : Skill) (bq : Nat) (t : ByteArray) (w : World) (hc : w.cell? ⟨bq, 0, none⟩ = some (.string t)) :
    Calls Tryz.prog 89 #[encSkill x, .pointer (some ⟨bq, 0, none⟩)] w (Gives (.bool (goodS t x)) w) := by
  obtain ⟨x1, x2⟩ := x
  unfold encSkill goodS
  simp only
  have hlt := cell_lt hc
  by_cases h : x1 = t
  · have hq : (x1.toList == t.toList) = true := by rw [toList_beq]; exact decide_eq_true h
    rw [decide_eq_true h, Bool.true_and]
    clear h
    go_enter Tryz.func89, Tryz.ntmps89
    go_wp2_with fail
    go_ret
    exact ⟨rfl, by (repeat' (first | exact Below.refl _ _ | assumption | refine Below.setCell ?_ ?_ _ | refine below_drewN ?_ _ | refine Below.drew ?_ | refine Below.alloc ?_ ?_ _ | (with_reducible refine Below.trans ?_ (Below.mono hb ?_)) | (with_reducible refine Below.trans ?_ (Below.mono hb0 ?_)) | (with_reducible refine Below.trans ?_ (Below.mono hb1 ?_)) | (with_reducible refine Below.trans ?_ (Below.mono hb2 ?_)) | (with_reducible refine Below.trans ?_ (Below.mono hb3 ?_)) | (with_reducible refine Below.trans ?_ (Below.mono hb4 ?_)) | (with_reducible refine Below.trans ?_ (Below.mono hb5 ?_)) | (with_reducible refine Below.trans ?_ (Below.mono hb6 ?_)) | (with_reducible refine Below.trans ?_ (Below.mono hb7 ?_)) | (with_reducible refine Below.trans ?_ (Below.mono hb8 ?_)) | (with_reducible refine Below.trans ?_ (Below.mono hb9 ?_)) | (with_reducible refine Below.trans ?_ (Below.mono hb10 ?_)) | (with_reducible refine Below.trans ?_ (Below.mono hb11 ?_)) | (with_reducible refine Below.trans ?_ (Below.mono hb12 ?_)) | (with_reducible refine Below.trans ?_ (Below.mono hb13 ?_)) | (with_reducible refine Below.trans ?_ (Below.mono hb14 ?_)) | (with_reducible refine Below.trans ?_ (Below.mono hb15 ?_)) | omega | (simp; done) | (simp; omega)))⟩
  · have hq : (x1.toList == t.toList) = false := by rw [toList_beq]; exact decide_eq_false h
    rw [decide_eq_false h, Bool.false_and]
    clear h
    go_enter Tryz.func89, Tryz.ntmps89
    go_wp2_with fail
    go_ret
    exact ⟨rfl, by (repeat' (first | exact Below.refl _ _ | assumption | refine Below.setCell ?_ ?_ _ | refine below_drewN ?_ _ | refine Below.drew ?_ | refine Below.alloc ?_ ?_ _ | (with_reducible refine Below.trans ?_ (Below.mono hb ?_)) | (with_reducible refine Below.trans ?_ (Below.mono hb0 ?_)) | (with_reducible refine Below.trans ?_ (Below.mono hb1 ?_)) | (with_reducible refine Below.trans ?_ (Below.mono hb2 ?_)) | (with_reducible refine Below.trans ?_ (Below.mono hb3 ?_)) | (with_reducible refine Below.trans ?_ (Below.mono hb4 ?_)) | (with_reducible refine Below.trans ?_ (Below.mono hb5 ?_)) | (with_reducible refine Below.trans ?_ (Below.mono hb6 ?_)) | (with_reducible refine Below.trans ?_ (Below.mono hb7 ?_)) | (with_reducible refine Below.trans ?_ (Below.mono hb8 ?_)) | (with_reducible refine Below.trans ?_ (Below.mono hb9 ?_)) | (with_reducible refine Below.trans ?_ (Below.mono hb10 ?_)) | (with_reducible refine Below.trans ?_ (Below.mono hb11 ?_)) | (with_reducible refine Below.trans ?_ (Below.mono hb12 ?_)) | (with_reducible refine Below.trans ?_ (Below.mono hb13 ?_)) | (with_reducible refine Below.trans ?_ (Below.mono hb14 ?_)) | (with_reducible refine Below.trans ?_ (Below.mono hb15 ?_)) | omega | (simp; done) | (simp; omega)))⟩
set_option maxHeartbeats 1000000 in
theorem lackOfClo_any (x : Skill) (bq : Nat) (t : ByteArray) (w : World) (hc : w.cell? ⟨bq, 0, none⟩ = some (.string t)) :
    Calls Tryz.prog 94 #[encSkill x, .pointer (some ⟨bq, 0, none⟩)] w (Gives (.bool (goodS t x)) w) := by
  obtain ⟨x1, x2⟩ := x
  unfold encSkill goodS
  simp only
  have hlt := cell_lt hc
  by_cases h : x1 = t
  · have hq : (x1.toList == t.toList) = true := by rw [toList_beq]; exact decide_eq_true h
    rw [decide_eq_true h, Bool.true_and]
    clear h
    go_enter Tryz.func94, Tryz.ntmps94
    go_wp2_with fail
    go_ret
    exact ⟨rfl, by (repeat' (first | exact Below.refl _ _ | assumption | refine Below.setCell ?_ ?_ _ | refine below_drewN ?_ _ | refine Below.drew ?_ | refine Below.alloc ?_ ?_ _ | (with_reducible refine Below.trans ?_ (Below.mono hb ?_)) | (with_reducible refine Below.trans ?_ (Below.mono hb0 ?_)) | (with_reducible refine Below.trans ?_ (Below.mono hb1 ?_)) | (with_reducible refine Below.trans ?_ (Below.mono hb2 ?_)) | (with_reducible refine Below.trans ?_ (Below.mono hb3 ?_)) | (with_reducible refine Below.trans ?_ (Below.mono hb4 ?_)) | (with_reducible refine Below.trans ?_ (Below.mono hb5 ?_)) | (with_reducible refine Below.trans ?_ (Below.mono hb6 ?_)) | (with_reducible refine Below.trans ?_ (Below.mono hb7 ?_)) | (with_reducible refine Below.trans ?_ (Below.mono hb8 ?_)) | (with_reducible refine Below.trans ?_ (Below.mono hb9 ?_)) | (with_reducible refine Below.trans ?_ (Below.mono hb10 ?_)) | (with_reducible refine Below.trans ?_ (Below.mono hb11 ?_)) | (with_reducible refine Below.trans ?_ (Below.mono hb12 ?_)) | (with_reducible refine Below.trans ?_ (Below.mono hb13 ?_)) | (with_reducible refine Below.trans ?_ (Below.mono hb14 ?_)) | (with_reducible refine Below.trans ?_ (Below.mono hb15 ?_)) | omega | (simp; done) | (simp; omega)))⟩
  · have hq : (x1.toList == t.toList) = false := by rw [toList_beq]; exact decide_eq_false h
    rw [decide_eq_false h, Bool.false_and]
    clear h
    go_enter Tryz.func94, Tryz.ntmps94
    go_wp2_with fail
    go_ret
    exact ⟨rfl, by (repeat' (first | exact Below.refl _ _ | assumption | refine Below.setCell ?_ ?_ _ | refine below_drewN ?_ _ | refine Below.drew ?_ | refine Below.alloc ?_ ?_ _ | (with_reducible refine Below.trans ?_ (Below.mono hb ?_)) | (with_reducible refine Below.trans ?_ (Below.mono hb0 ?_)) | (with_reducible refine Below.trans ?_ (Below.mono hb1 ?_)) | (with_reducible refine Below.trans ?_ (Below.mono hb2 ?_)) | (with_reducible refine Below.trans ?_ (Below.mono hb3 ?_)) | (with_reducible refine Below.trans ?_ (Below.mono hb4 ?_)) | (with_reducible refine Below.trans ?_ (Below.mono hb5 ?_)) | (with_reducible refine Below.trans ?_ (Below.mono hb6 ?_)) | (with_reducible refine Below.trans ?_ (Below.mono hb7 ?_)) | (with_reducible refine Below.trans ?_ (Below.mono hb8 ?_)) | (with_reducible refine Below.trans ?_ (Below.mono hb9 ?_)) | (with_reducible refine Below.trans ?_ (Below.mono hb10 ?_)) | (with_reducible refine Below.trans ?_ (Below.mono hb11 ?_)) | (with_reducible refine Below.trans ?_ (Below.mono hb12 ?_)) | (with_reducible refine Below.trans ?_ (Below.mono hb13 ?_)) | (with_reducible refine Below.trans ?_ (Below.mono hb14 ?_)) | (with_reducible refine Below.trans ?_ (Below.mono hb15 ?_)) | omega | (simp; done) | (simp; omega)))⟩
/-- How many readers are good enough. -/
def goodN (rs : List Reader) (t : ByteArray) : Nat := rs.countP (fun r => r.skills.any (goodS t))
theorem goodN_snoc {rs : List Reader} {k : Nat} (hk : k < rs.length) (t : ByteArray) : goodN (rs.take (k + 1)) t = goodN (rs.take k) t + if rs[k].skills.any (goodS t) = true then 1 else 0 := by
  unfold goodN; rw [List.take_succ_eq_append_getElem hk, List.countP_append]; simp
theorem goodN_le (rs : List Reader) (t : ByteArray) : goodN rs t ≤ rs.length := List.countP_le_length
/-- How many papers have a topic. -/
def papN (ps : List Paper) (t : ByteArray) : Nat := ps.countP (fun p => p.topics.any (fun y => decide (y = t)))
theorem papN_snoc {ps : List Paper} {k : Nat} (hk : k < ps.length) (t : ByteArray) : papN (ps.take (k + 1)) t = papN (ps.take k) t + if ps[k].topics.any (fun y => decide (y = t)) = true then 1 else 0 := by
  unfold papN; rw [List.take_succ_eq_append_getElem hk, List.countP_append]; simp
theorem papN_le (ps : List Paper) (t : ByteArray) : papN ps t ≤ ps.length := List.countP_le_length
theorem cntT_nodup {l : List ByteArray} (h : l.Nodup) (t : ByteArray) : cntT l t = if l.any (fun y => decide (y = t)) = true then 1 else 0 := by
  induction l with
  | nil => rfl
  | cons x r ih =>
    rw [List.nodup_cons] at h
    have ih := ih h.2
    unfold cntT at *
    rw [List.countP_cons, ih, List.any_cons]
    by_cases hx : x = t
    · subst hx
      have : r.any (fun y => decide (y = x)) = false := by
        rw [List.any_eq_false]; intro y hy e; exact h.1 (of_decide_eq_true e ▸ hy)
      simp [this]
    · rw [show decide (x = t) = false from decide_eq_false hx, Bool.false_or]; simp
theorem cntT_append (l m : List ByteArray) (t : ByteArray) : cntT (l ++ m) t = cntT l t + cntT m t := by unfold cntT; exact List.countP_append ..
theorem papN_cnt {ps : List Paper} (h : ∀ p ∈ ps, p.topics.Nodup) (t : ByteArray) : cntT (allT ps) t = papN ps t := by
  induction ps with
  | nil => rfl
  | cons p r ih =>
    have ih := ih fun q hq => h q (List.mem_cons_of_mem _ hq)
    have h1 := cntT_nodup (h p (List.mem_cons_self ..)) t
    unfold allT papN at *
    rw [List.flatMap_cons, cntT_append, h1, ih, List.countP_cons]
    omega
/-- The topics that lack readers. -/
def lack1 (ps : List Paper) (rs : List Reader) (each : Int) (t : ByteArray) : List Trio := if (goodN rs t : Int) < each * (papN ps t : Int) then [(t, (papN ps t : Int), (goodN rs t : Int))] else []
def lackL (ps : List Paper) (rs : List Reader) (each : Int) (ts : List ByteArray) : List Trio := ts.flatMap (lack1 ps rs each)
theorem lackL_snoc (ps : List Paper) (rs : List Reader) (each : Int) {ts : List ByteArray} {k : Nat} (hk : k < ts.length) : lackL ps rs each (ts.take (k + 1)) = lackL ps rs each (ts.take k) ++ lack1 ps rs each ts[k] := by
  unfold lackL; rw [List.take_succ_eq_append_getElem hk, List.flatMap_append]; simp
theorem lackL_len (ps : List Paper) (rs : List Reader) (each : Int) : ∀ ts : List ByteArray, (lackL ps rs each ts).length ≤ ts.length
  | [] => by simp [lackL]
  | t :: r => by
    have ih := lackL_len ps rs each r
    unfold lackL at *
    rw [List.flatMap_cons, List.length_append, List.length_cons]
    have : (lack1 ps rs each t).length ≤ 1 := by unfold lack1; split <;> simp
    omega
theorem rise_nodup' {s : List ByteArray} (h : riseFault s = 0) : s.Nodup := by
  have hstep : ∀ k (h0 : k < s.length) (h1 : k + 1 < s.length), ltS s[k] s[k + 1] := by
    intro k h0 h1
    have h2 := firstErr_all h (k + 1) h1
    unfold riseE at h2
    rw [List.getElem?_eq_getElem h1] at h2
    simp only at h2
    split at h2
    · exact absurd h2 (by decide)
    split at h2
    · exact absurd h2 (by decide)
    · next h3 =>
      rw [ordB_at (k := k + 1) (p := k) (x := s[k + 1]) (y := s[k]) rfl (List.getElem?_eq_getElem h1) (List.getElem?_eq_getElem h0)] at h3
      exact rise_lt (bl_total (by simpa [leB] using h3))
  have hall : ∀ (k j : Nat) (hk : k < s.length) (hj : j < k), ltS (s[j]'(by omega)) s[k] := by
    intro k
    induction k with
    | zero => intro j _ hj; omega
    | succ k ih =>
      intro j hk hj
      have hs := hstep k (by omega) hk
      by_cases hjk : j = k
      · subst hjk; exact hs
      · exact ltS_trans (ih j (by omega) (by omega)) hs
  unfold List.Nodup
  rw [List.pairwise_iff_getElem]
  intro i j hi hj hij e
  have := hall j i hj hij
  rw [e] at this
  exact ltS_irrefl _ this
def lackX (l : List Topic) (ps : List Paper) (rs : List Reader) (each : Int) : Int := if fieldE l ps rs [] ≠ 0 then fieldE l ps rs [] else if each < 1 ∨ 20 < each then 1 else 0
def lackO (l : List Topic) (ps : List Paper) (rs : List Reader) (each : Int) : List Trio := if lackX l ps rs each = 0 then lackL ps rs each (keysS (allT ps)) else []

set_option maxRecDepth 100000 in
set_option maxHeartbeats 8000000 in
theorem lackOf_any (ps : List Paper) (pa : Option Addr) (pc : Nat) (rs : List Reader) (ra : Option Addr) (rc : Nat) (each : Int) (w : World) (hP : PapersAt w pa ps) (hR : ReadersAt w ra rs) (hpl : ps.length ≤ 1000) (hsm : ∀ p ∈ ps, PSmall p) (hrl : rs.length ≤ 1000) (hrm : ∀ r ∈ rs, RSmall r) (he1 : 1 ≤ each) (he20 : each ≤ 20) :
    Calls Tryz.prog 37 #[.slice pa ps.length pc, .slice ra rs.length rc, .int .i64 each] w (GivesOwn 72 (lackL ps rs each (keysS (allT ps))) w) := by
  have HT := Lib.hid (topicsIn_any ps pa pc w hP hpl hsm)
  have HSn := Lib.hid (fun k hk => lackL_snoc ps rs each (ts := keysS (allT ps)) (k := k) hk)
  have HLn := Lib.hid (fun k => lackL_len ps rs each ((keysS (allT ps)).take k))
  have Hfin := Lib.hid (show lackL ps rs each ((keysS (allT ps)).take (keysS (allT ps)).length) = lackL ps rs each (keysS (allT ps)) by rw [List.take_length])
  have HL0 := Lib.hid (show lackL ps rs each ((keysS (allT ps)).take 0) = [] from rfl)
  have hkl : (keysS (allT ps)).length ≤ 1000000 := by
    have h1 := keysS_length (allT ps)
    have h2 := allT_bd hpl hsm ps.length
    rw [List.take_length] at h2
    omega
  generalize keysS (allT ps) = K at *
  go_enter Tryz.func37, Tryz.ntmps37
  go_wp2_with fail
  refine HT.out.mono ?_
  rintro e W4 ⟨v4, rfl, hown4, hb4⟩
  obtain ⟨ka, kc, rfl, hka, -, -⟩ := hown4.sa
  have hP4 := hP.below hb4
  have hR4 := hR.below hb4
  clear HT hP hR hown4
  go_wp2_with fail
  go_loopg [7, 18] K.length (fun gk v i wr => ∃ k : Nat, i = .int .i64 k ∧ k ≤ K.length ∧ Hid (gk = K.length - k) ∧ Own W4.heap.size 72 wr v (lackL ps rs each (K.take k)) ∧ Below W4.heap.size W4 wr)
  case atStart => exact ⟨0, rfl, by omega, rfl, by rw [HL0.out]; exact Own.nil _ _ _, Below.refl _ _⟩
  obtain ⟨k, rfl, hk, hgk, hown, hb⟩ := hrel
  have hzr := hb.size
  by_cases hlt : k < K.length
  · obtain ⟨cb, coff, hca, c0⟩ := (hka.below hb).str hlt
    have HSt := Lib.hid (HSn.out k hlt)
    have hal := HLn.out k
    rw [List.length_take] at hal
    have Ha := Lib.hid hca
    rw [hca]
    clear hca
    generalize K[k] = t at *
    unfold lack1 at HSt
    obtain ⟨acc2, ha2⟩ : ∃ a, lackL ps rs each (K.take (k + 1)) = a := ⟨_, rfl⟩
    rw [ha2] at HSt
    have HA2 := Lib.hid ha2
    clear ha2
    generalize lackL ps rs each (K.take k) = acc at *
    have hk1 : (0 : Int) ≤ (k : Int) := by omega
    have hk2 : (k : Int) < (K.length : Int) := by omega
    have hbp : Below W4.heap.size W4 (wr.alloc (.cells #[.string t] 9)) := by (repeat' (first | exact Below.refl _ _ | assumption | refine Below.setCell ?_ ?_ _ | refine below_drewN ?_ _ | refine Below.drew ?_ | refine Below.alloc ?_ ?_ _ | (with_reducible refine Below.trans ?_ (Below.mono hb ?_)) | (with_reducible refine Below.trans ?_ (Below.mono hb0 ?_)) | (with_reducible refine Below.trans ?_ (Below.mono hb1 ?_)) | (with_reducible refine Below.trans ?_ (Below.mono hb2 ?_)) | (with_reducible refine Below.trans ?_ (Below.mono hb3 ?_)) | (with_reducible refine Below.trans ?_ (Below.mono hb4 ?_)) | (with_reducible refine Below.trans ?_ (Below.mono hb5 ?_)) | (with_reducible refine Below.trans ?_ (Below.mono hb6 ?_)) | (with_reducible refine Below.trans ?_ (Below.mono hb7 ?_)) | (with_reducible refine Below.trans ?_ (Below.mono hb8 ?_)) | (with_reducible refine Below.trans ?_ (Below.mono hb9 ?_)) | (with_reducible refine Below.trans ?_ (Below.mono hb10 ?_)) | (with_reducible refine Below.trans ?_ (Below.mono hb11 ?_)) | (with_reducible refine Below.trans ?_ (Below.mono hb12 ?_)) | (with_reducible refine Below.trans ?_ (Below.mono hb13 ?_)) | (with_reducible refine Below.trans ?_ (Below.mono hb14 ?_)) | (with_reducible refine Below.trans ?_ (Below.mono hb15 ?_)) | omega | (simp; done) | (simp; omega)))
    have hTp := Box.new wr 9 #[.string t]
    have hownp := hown.alloc (.cells #[.string t] 9)
    have hRp := hR4.below hbp
    have hPp := hP4.below hbp
    have hsz : (wr.alloc (.cells #[.string t] 9)).heap.size = wr.heap.size + 1 := by simp
    have hSb := Box.newAt (wr.alloc (.cells #[.string t] 9)) (wr.heap.size + 1) 72 #[.string t, .int .i64 0, .int .i64 0] (by simp)
    have hbW := Below.alloc (Below.refl (wr.alloc (.cells #[.string t] 9)).heap.size (wr.alloc (.cells #[.string t] 9))) (Nat.le_refl _) (.cells #[.string t, .int .i64 0, .int .i64 0] 72)
    have hT0 := hTp.cell 0
    clear hown
    go_wp2_with fail
    clear hT0
    rename World => wo
    generalize wo.alloc (.cells #[.string t] 9) = Wp at *
    have Hsz := Lib.hid hsz
    clear hsz
    go_loopg [26] ps.length (fun gj i wx => ∃ j : Nat, i = .int .i64 j ∧ j ≤ ps.length ∧ Hid (gj = ps.length - j) ∧ Box wx (wo.heap.size + 1) 72 #[.string t, .int .i64 ((papN (ps.take j) t : Nat) : Int), .int .i64 0] ∧ Below Wp.heap.size Wp wx)
    case atStart => exact ⟨0, rfl, by omega, rfl, hSb, hbW⟩
    clear hSb hbW
    obtain ⟨j, rfl, hj, hgj, hSb, hbx⟩ := hrel
    have hzx := hbx.size
    have hsz := Hsz.out
    by_cases hjl : j < ps.length
    · obtain ⟨pb, poff, hqa, d0, d1, d2, d3, d4⟩ := (hPp.below hbx).1.paper hjl
      have hrd := hPp.2 ps[j] (List.getElem_mem hjl)
      have hx := hsm ps[j] (List.getElem_mem hjl)
      have Hgn := Lib.hid (papN_snoc hjl t)
      have hgl := papN_le (ps.take j) t
      rw [List.length_take] at hgl
      have Hq := Lib.hid hqa
      rw [hqa]
      clear hqa
      generalize ps[j] = p at *
      obtain ⟨x1, x2, x3, au, tt, a1, n1, a2, n2⟩ := p
      obtain ⟨hr1, hr2, hr3⟩ := hrd
      obtain ⟨_, _, _, hx4, hx5, _, hx7⟩ := hx
      simp only at d0 d1 d2 d3 d4 hr1 hr2 hr3 hx4 hx5 hx7 Hgn
      obtain ⟨gn, hgn⟩ : ∃ g, papN (ps.take j) t = g := ⟨_, rfl⟩
      rw [hgn] at Hgn hgl hSb
      clear hgn
      have hbA : Below Wp.heap.size Wp (wr.alloc (.cells #[.string x1, .string x2, .string x3, .slice a1 au.length n1, .slice a2 tt.length n2] 86)) := by (repeat' (first | exact Below.refl _ _ | assumption | refine Below.setCell ?_ ?_ _ | refine below_drewN ?_ _ | refine Below.drew ?_ | refine Below.alloc ?_ ?_ _ | (with_reducible refine Below.trans ?_ (Below.mono hb ?_)) | (with_reducible refine Below.trans ?_ (Below.mono hb0 ?_)) | (with_reducible refine Below.trans ?_ (Below.mono hb1 ?_)) | (with_reducible refine Below.trans ?_ (Below.mono hb2 ?_)) | (with_reducible refine Below.trans ?_ (Below.mono hb3 ?_)) | (with_reducible refine Below.trans ?_ (Below.mono hb4 ?_)) | (with_reducible refine Below.trans ?_ (Below.mono hb5 ?_)) | (with_reducible refine Below.trans ?_ (Below.mono hb6 ?_)) | (with_reducible refine Below.trans ?_ (Below.mono hb7 ?_)) | (with_reducible refine Below.trans ?_ (Below.mono hb8 ?_)) | (with_reducible refine Below.trans ?_ (Below.mono hb9 ?_)) | (with_reducible refine Below.trans ?_ (Below.mono hb10 ?_)) | (with_reducible refine Below.trans ?_ (Below.mono hb11 ?_)) | (with_reducible refine Below.trans ?_ (Below.mono hb12 ?_)) | (with_reducible refine Below.trans ?_ (Below.mono hb13 ?_)) | (with_reducible refine Below.trans ?_ (Below.mono hb14 ?_)) | (with_reducible refine Below.trans ?_ (Below.mono hb15 ?_)) | omega | (simp; done) | (simp; omega)))
      have hS3 := hSb.alloc (.cells #[.string x1, .string x2, .string x3, .slice a1 au.length n1, .slice a2 tt.length n2] 86)
      have hB := Box.new wr 86 #[.string x1, .string x2, .string x3, .slice a1 au.length n1, .slice a2 tt.length n2]
      have hT0 := (hTp.below hbA).cell 0
      have hsA := hr2.below hbA
      have hB_l := hB.lt; have hB_0 := hB.cell 0; have hB_1 := hB.cell 1; have hB_2 := hB.cell 2; have hB_3 := hB.cell 3; have hB_4 := hB.cell 4; simp at hB_0 hB_1 hB_2 hB_3 hB_4
      clear hSb
      go_wp2_with fail
      refine (contains_any tt a2 n2 t _ hsA (by omega)).mono ?_
      rintro e w3 ⟨rfl, rfl⟩
      clear hB hB_l hB_0 hB_1 hB_2 hB_3 hB_4 hT0
      cases hg : tt.any (fun y => decide (y = t))
      · rw [hg] at Hgn
        have Hgn2 : Hid (papN (ps.take (j + 1)) t = gn) := by show _ = _; rw [Hgn.out]; simp
        clear hg Hgn
        go_wp2_with fail
        rw [← Hq.out]
        go_roundg (ps.length - (j + 1))
        case measure => have := hgj.out; omega
        case rel => exact ⟨j + 1, by go_num, by omega, rfl, by rw [Hgn2.out]; exact hS3, hbA⟩
      · rw [hg] at Hgn
        have Hgn2 : Hid (papN (ps.take (j + 1)) t = gn + 1) := by show _ = _; rw [Hgn.out]; simp
        clear hg Hgn
        have hw : IntKind.i64.wrap ((gn : Int) + 1) = (gn : Int) + 1 := IntWalk.i64_in _ (by omega)
        generalize wr.alloc (.cells #[.string x1, .string x2, .string x3, .slice a1 au.length n1, .slice a2 tt.length n2] 86) = w3 at *
        have hz3 := hbA.size
        have hfr := hS3.frozen 1
        have hS4 := hS3.set 1 (.int .i64 ((gn : Int) + 1))
        have hb4' : Below Wp.heap.size Wp (w3.setCell ⟨wo.heap.size + 1, 1, none⟩ (.int .i64 ((gn : Int) + 1))) := by (repeat' (first | exact Below.refl _ _ | assumption | refine Below.setCell ?_ ?_ _ | refine below_drewN ?_ _ | refine Below.drew ?_ | refine Below.alloc ?_ ?_ _ | (with_reducible refine Below.trans ?_ (Below.mono hb ?_)) | (with_reducible refine Below.trans ?_ (Below.mono hb0 ?_)) | (with_reducible refine Below.trans ?_ (Below.mono hb1 ?_)) | (with_reducible refine Below.trans ?_ (Below.mono hb2 ?_)) | (with_reducible refine Below.trans ?_ (Below.mono hb3 ?_)) | (with_reducible refine Below.trans ?_ (Below.mono hb4 ?_)) | (with_reducible refine Below.trans ?_ (Below.mono hb5 ?_)) | (with_reducible refine Below.trans ?_ (Below.mono hb6 ?_)) | (with_reducible refine Below.trans ?_ (Below.mono hb7 ?_)) | (with_reducible refine Below.trans ?_ (Below.mono hb8 ?_)) | (with_reducible refine Below.trans ?_ (Below.mono hb9 ?_)) | (with_reducible refine Below.trans ?_ (Below.mono hb10 ?_)) | (with_reducible refine Below.trans ?_ (Below.mono hb11 ?_)) | (with_reducible refine Below.trans ?_ (Below.mono hb12 ?_)) | (with_reducible refine Below.trans ?_ (Below.mono hb13 ?_)) | (with_reducible refine Below.trans ?_ (Below.mono hb14 ?_)) | (with_reducible refine Below.trans ?_ (Below.mono hb15 ?_)) | omega | (simp; done) | (simp; omega)))
        have hS3_l := hS3.lt; have hS3_0 := hS3.cell 0; have hS3_1 := hS3.cell 1; have hS3_2 := hS3.cell 2; simp at hS3_0 hS3_1 hS3_2
        clear hS3
        go_wp2_with fail
        rw [← Hq.out]
        go_roundg (ps.length - (j + 1))
        case measure => have := hgj.out; omega
        case rel => exact ⟨j + 1, by go_num, by omega, rfl, by rw [Hgn2.out, show ((gn + 1 : Nat) : Int) = (gn : Int) + 1 by omega]; exact hS4, hb4'⟩
    · obtain rfl : j = ps.length := by omega
      rw [List.take_length] at hSb
      have hpn1 := papN_le ps t
      obtain ⟨pn, hpn⟩ : ∃ p : Int, ((papN ps t : Nat) : Int) = p := ⟨_, rfl⟩
      have hpn0 : 0 ≤ pn := by omega
      have hpn2 : pn ≤ 1000000 := by omega
      rw [hpn] at HSt hSb
      clear hpn hpn1 hjl hgj hj
      have hbW := hbx
      clear hbx
      go_wp2_with fail
      rename World => wq
      go_loopg [41] rs.length (fun gj i wx => ∃ j : Nat, i = .int .i64 j ∧ j ≤ rs.length ∧ Hid (gj = rs.length - j) ∧ Box wx (wo.heap.size + 1) 72 #[.string t, .int .i64 pn, .int .i64 ((goodN (rs.take j) t : Nat) : Int)] ∧ Below Wp.heap.size Wp wx)
      case atStart => exact ⟨0, rfl, by omega, rfl, hSb, hbW⟩
      clear hSb hbW
      obtain ⟨j, rfl, hj, hgj, hSb, hbx⟩ := hrel
      have hzx := hbx.size
      by_cases hjl : j < rs.length
      · obtain ⟨qb, qoff, hqa, d0, d1⟩ := (hRp.below hbx).1.reader hjl
        have hsk := hRp.2 rs[j] (List.getElem_mem hjl)
        have hrs := hrm rs[j] (List.getElem_mem hjl)
        have Hgn := Lib.hid (goodN_snoc hjl t)
        have hgl := goodN_le (rs.take j) t
        rw [List.length_take] at hgl
        have Hq := Lib.hid hqa
        rw [hqa]
        clear hqa
        generalize rs[j] = r at *
        obtain ⟨y1, y2, y3, y4⟩ := r
        simp only at d0 d1 hsk hrs Hgn
        obtain ⟨gn, hgn⟩ : ∃ g, goodN (rs.take j) t = g := ⟨_, rfl⟩
        rw [hgn] at Hgn hgl hSb
        clear hgn
        have hbA : Below Wp.heap.size Wp (wr.alloc (.cells #[.string y1, .slice y3 y2.length y4] 92)) := by (repeat' (first | exact Below.refl _ _ | assumption | refine Below.setCell ?_ ?_ _ | refine below_drewN ?_ _ | refine Below.drew ?_ | refine Below.alloc ?_ ?_ _ | (with_reducible refine Below.trans ?_ (Below.mono hb ?_)) | (with_reducible refine Below.trans ?_ (Below.mono hb0 ?_)) | (with_reducible refine Below.trans ?_ (Below.mono hb1 ?_)) | (with_reducible refine Below.trans ?_ (Below.mono hb2 ?_)) | (with_reducible refine Below.trans ?_ (Below.mono hb3 ?_)) | (with_reducible refine Below.trans ?_ (Below.mono hb4 ?_)) | (with_reducible refine Below.trans ?_ (Below.mono hb5 ?_)) | (with_reducible refine Below.trans ?_ (Below.mono hb6 ?_)) | (with_reducible refine Below.trans ?_ (Below.mono hb7 ?_)) | (with_reducible refine Below.trans ?_ (Below.mono hb8 ?_)) | (with_reducible refine Below.trans ?_ (Below.mono hb9 ?_)) | (with_reducible refine Below.trans ?_ (Below.mono hb10 ?_)) | (with_reducible refine Below.trans ?_ (Below.mono hb11 ?_)) | (with_reducible refine Below.trans ?_ (Below.mono hb12 ?_)) | (with_reducible refine Below.trans ?_ (Below.mono hb13 ?_)) | (with_reducible refine Below.trans ?_ (Below.mono hb14 ?_)) | (with_reducible refine Below.trans ?_ (Below.mono hb15 ?_)) | omega | (simp; done) | (simp; omega)))
        have hSA := hSb.alloc (.cells #[.string y1, .slice y3 y2.length y4] 92)
        have hBr := Box.new wr 92 #[.string y1, .slice y3 y2.length y4]
        have HFs := Lib.hid (findSkill_any y2 y3 y4 94 #[.pointer (some ⟨wo.heap.size, 0, none⟩)] (goodS t) _ (enters_of Tryz.func94 (by kernel_rfl) rfl) (hsk.below hbA) (by have := hrs.2; simp only at this; omega) (fun x hx W' hb' => lackOfClo_any x wo.heap.size t W' (((hTp.below hbA).below hb').cell 0)))
        have hBr_l := hBr.lt; have hBr_0 := hBr.cell 0; have hBr_1 := hBr.cell 1; simp at hBr_0 hBr_1
        clear hSb
        go_wp2_with fail
        refine HFs.out.mono ?_
        rintro e w3 ⟨rfl, hb3⟩
        have hb3A := below_next hbA hb3
        have hS3 := hSA.below hb3
        have hz3 := hb3A.size
        clear hBr hBr_l hBr_0 hBr_1 hSA HFs hb3 hbA
        cases hg : y2.any (goodS t)
        · rw [hg] at Hgn
          have Hgn2 : Hid (goodN (rs.take (j + 1)) t = gn) := by show _ = _; rw [Hgn.out]; simp
          clear hg Hgn
          go_wp2_with fail
          rw [← Hq.out]
          go_roundg (rs.length - (j + 1))
          case measure => have := hgj.out; omega
          case rel => exact ⟨j + 1, by go_num, by omega, rfl, by rw [Hgn2.out]; exact hS3, hb3A⟩
        · rw [hg] at Hgn
          have Hgn2 : Hid (goodN (rs.take (j + 1)) t = gn + 1) := by show _ = _; rw [Hgn.out]; simp
          clear hg Hgn
          have hw : IntKind.i64.wrap ((gn : Int) + 1) = (gn : Int) + 1 := IntWalk.i64_in _ (by omega)
          have hfr := hS3.frozen 2
          have hS4 := hS3.set 2 (.int .i64 ((gn : Int) + 1))
          have hb4 : Below Wp.heap.size Wp (w3.setCell ⟨wo.heap.size + 1, 2, none⟩ (.int .i64 ((gn : Int) + 1))) := by (repeat' (first | exact Below.refl _ _ | assumption | refine Below.setCell ?_ ?_ _ | refine below_drewN ?_ _ | refine Below.drew ?_ | refine Below.alloc ?_ ?_ _ | (with_reducible refine Below.trans ?_ (Below.mono hb ?_)) | (with_reducible refine Below.trans ?_ (Below.mono hb0 ?_)) | (with_reducible refine Below.trans ?_ (Below.mono hb1 ?_)) | (with_reducible refine Below.trans ?_ (Below.mono hb2 ?_)) | (with_reducible refine Below.trans ?_ (Below.mono hb3 ?_)) | (with_reducible refine Below.trans ?_ (Below.mono hb4 ?_)) | (with_reducible refine Below.trans ?_ (Below.mono hb5 ?_)) | (with_reducible refine Below.trans ?_ (Below.mono hb6 ?_)) | (with_reducible refine Below.trans ?_ (Below.mono hb7 ?_)) | (with_reducible refine Below.trans ?_ (Below.mono hb8 ?_)) | (with_reducible refine Below.trans ?_ (Below.mono hb9 ?_)) | (with_reducible refine Below.trans ?_ (Below.mono hb10 ?_)) | (with_reducible refine Below.trans ?_ (Below.mono hb11 ?_)) | (with_reducible refine Below.trans ?_ (Below.mono hb12 ?_)) | (with_reducible refine Below.trans ?_ (Below.mono hb13 ?_)) | (with_reducible refine Below.trans ?_ (Below.mono hb14 ?_)) | (with_reducible refine Below.trans ?_ (Below.mono hb15 ?_)) | omega | (simp; done) | (simp; omega)))
          have hS3_l := hS3.lt; have hS3_0 := hS3.cell 0; have hS3_1 := hS3.cell 1; have hS3_2 := hS3.cell 2; simp at hS3_0 hS3_1 hS3_2
          clear hS3
          go_wp2_with fail
          rw [← Hq.out]
          go_roundg (rs.length - (j + 1))
          case measure => have := hgj.out; omega
          case rel => exact ⟨j + 1, by go_num, by omega, rfl, by rw [Hgn2.out, show ((gn + 1 : Nat) : Int) = (gn : Int) + 1 by omega]; exact hS4, hb4⟩
      · obtain rfl : j = rs.length := by omega
        rw [List.take_length] at hSb
        have hgl := goodN_le rs t
        generalize goodN rs t = gn at *
        have hbz := below_next hbp hbx
        have hzz := hbz.size
        have hownz := hownp.below hbx
        have hm1 : each * pn ≤ 20 * pn := Int.mul_le_mul_of_nonneg_right he20 hpn0
        have hm2 : 0 ≤ each * pn := Int.mul_nonneg (by omega) hpn0
        obtain ⟨ep, hep⟩ : ∃ e, each * pn = e := ⟨_, rfl⟩
        rw [hep] at hm1 hm2 HSt
        have hw : IntKind.i64.wrap (each * pn) = ep := by rw [hep]; exact IntWalk.i64_in _ (by omega)
        clear hep hjl hgj
        have hSb_l := hSb.lt; have hSb_0 := hSb.cell 0; have hSb_1 := hSb.cell 1; have hSb_2 := hSb.cell 2; simp at hSb_0 hSb_1 hSb_2
        by_cases hc : (gn : Int) < ep
        · have HSt2 := Lib.hid (HSt.out.trans (congrArg (acc ++ ·) (if_pos hc)))
          have hd : decide ((gn : Int) < ep) = true := decide_eq_true hc
          have hown1 := hownz.alloc (.cells #[.string t, .int .i64 pn, .int .i64 gn] 72)
          have hbo := Box.new wr 72 #[.string t, .int .i64 pn, .int .i64 gn]
          have hba : Below W4.heap.size W4 (wr.alloc (.cells #[.string t, .int .i64 pn, .int .i64 gn] 72)) := by (repeat' (first | exact Below.refl _ _ | assumption | refine Below.setCell ?_ ?_ _ | refine below_drewN ?_ _ | refine Below.drew ?_ | refine Below.alloc ?_ ?_ _ | (with_reducible refine Below.trans ?_ (Below.mono hb ?_)) | (with_reducible refine Below.trans ?_ (Below.mono hb0 ?_)) | (with_reducible refine Below.trans ?_ (Below.mono hb1 ?_)) | (with_reducible refine Below.trans ?_ (Below.mono hb2 ?_)) | (with_reducible refine Below.trans ?_ (Below.mono hb3 ?_)) | (with_reducible refine Below.trans ?_ (Below.mono hb4 ?_)) | (with_reducible refine Below.trans ?_ (Below.mono hb5 ?_)) | (with_reducible refine Below.trans ?_ (Below.mono hb6 ?_)) | (with_reducible refine Below.trans ?_ (Below.mono hb7 ?_)) | (with_reducible refine Below.trans ?_ (Below.mono hb8 ?_)) | (with_reducible refine Below.trans ?_ (Below.mono hb9 ?_)) | (with_reducible refine Below.trans ?_ (Below.mono hb10 ?_)) | (with_reducible refine Below.trans ?_ (Below.mono hb11 ?_)) | (with_reducible refine Below.trans ?_ (Below.mono hb12 ?_)) | (with_reducible refine Below.trans ?_ (Below.mono hb13 ?_)) | (with_reducible refine Below.trans ?_ (Below.mono hb14 ?_)) | (with_reducible refine Below.trans ?_ (Below.mono hb15 ?_)) | omega | (simp; done) | (simp; omega)))
          have Hol := Lib.hid hownz.lt
          clear hc hSb HSt hownz
          go_wp2_with (at_builtin; refine wpList_append_lie (α := Trio) rfl _ _ 62 rfl 72 32 (.agg #[.string ⟨#[]⟩, .int .i64 0, .int .i64 0]) Tryz.underlying62 Tryz.infoShort rfl _ acc rfl hown1 (t, pn, (gn : Int)) _ rfl hbo (by omega) (by omega) (by simp; omega) ?_; intro g9 cap9 w5 hown5 hg5 hat5)
          have hb5 := hba.grown hg5 (by simp; omega) (fun j hj => (Hol.out j hj).1)
          rw [← HSt2.out] at hown5
          rw [← Ha.out]
          (try go_wp2_with fail)
          go_roundg (K.length - (k + 1))
          case measure => have := hgk.out; omega
          case rel => exact ⟨k + 1, by go_num, by omega, rfl, by rw [HA2.out]; exact hown5, hb5⟩
        · have HSt2 := Lib.hid (HSt.out.trans (congrArg (acc ++ ·) (if_neg hc)))
          have hd : decide ((gn : Int) < ep) = false := decide_eq_false hc
          clear hc hSb HSt
          go_wp2_with fail
          rw [← Ha.out]
          go_roundg (K.length - (k + 1))
          case measure => have := hgk.out; omega
          case rel => exact ⟨k + 1, by go_num, by omega, rfl, by rw [HA2.out, HSt2.out, List.append_nil]; exact hownz, hbz⟩
  · obtain rfl : k = K.length := by omega
    rw [Hfin.out] at hown
    go_wp2_with fail
    go_ret
    exact ⟨_, rfl, hown.mono (by have := hb4.size; omega), below_next hb4 hb⟩
set_option maxRecDepth 100000 in
set_option maxHeartbeats 8000000 in
theorem lack_any (l : List Topic) (al : Option Addr) (capl : Nat) (ps : List Paper) (pa : Option Addr) (pc : Nat) (rs : List Reader) (ra : Option Addr) (rc : Nat) (each : Int) (w : World) (hE0 : Env w) (hl : SA w al l) (hP : PapersAt w pa ps) (hR : ReadersAt w ra rs)
    (hlen : l.length ≤ 1000000) (hsT : SmallT l) (hpl : ps.length ≤ 1000) (hsm : ∀ p ∈ ps, PSmall p) (hrl : rs.length ≤ 1000) (hrm : ∀ r ∈ rs, RSmall r) :
    Calls Tryz.prog 32 #[.slice al l.length capl, .slice pa ps.length pc, .slice ra rs.length rc, .int .i64 each] w (GivesL (lackX l ps rs each) (lackO l ps rs each) w) := by
  have HF : Hid (Calls Tryz.prog 73 #[.slice al l.length capl, .slice pa ps.length pc, .slice ra rs.length rc, .slice none 0 0] w (GivesField (fieldE l ps rs []) l ps pa pc rs ra rc [] w)) := fieldOf_any l al capl ps pa pc rs ra rc [] none 0 w hE0 hl hP hR (.inl rfl) hlen hsT hpl hsm hrl hrm (by simp) (fun x hx => by cases hx)
  have HNd : Hid (fieldE l ps rs [] = 0 → ∀ t, cntT (allT ps) t = papN ps t) := fun h t => papN_cnt (fun p hp => by
    obtain ⟨i, hi, rfl⟩ := List.getElem_of_mem hp
    exact rise_nodup' (topics_rise (field_right h).2.1 hi)) t
  have HX1 : Hid (fieldE l ps rs [] ≠ 0 → lackX l ps rs each = fieldE l ps rs []) := fun h => by unfold lackX; rw [if_pos h]
  have HX2 : Hid (fieldE l ps rs [] = 0 → lackX l ps rs each = if each < 1 ∨ 20 < each then 1 else 0) := fun h => by unfold lackX; rw [if_neg (by simpa using h)]
  have HO1 : Hid (lackX l ps rs each ≠ 0 → lackO l ps rs each = []) := fun h => by unfold lackO; rw [if_neg h]
  have HO2 : Hid (lackX l ps rs each = 0 → lackO l ps rs each = lackL ps rs each (keysS (allT ps))) := fun h => by unfold lackO; rw [if_pos h]
  have HSn := Lib.hid (fun k hk => lackL_snoc ps rs each (ts := keysS (allT ps)) (k := k) hk)
  have HLn := Lib.hid (fun k => lackL_len ps rs each ((keysS (allT ps)).take k))
  have Hfin := Lib.hid (show lackL ps rs each ((keysS (allT ps)).take (keysS (allT ps)).length) = lackL ps rs each (keysS (allT ps)) by rw [List.take_length])
  have HL0 := Lib.hid (show lackL ps rs each ((keysS (allT ps)).take 0) = [] from rfl)
  have hatl : (allT ps).length ≤ 1000000 := by have h2 := allT_bd hpl hsm ps.length; rwa [List.take_length] at h2
  have hkl : (keysS (allT ps)).length ≤ 1000000 := by have h1 := keysS_length (allT ps); omega
  have HC := Lib.hid (fun W (h : PapersAt W pa ps) => counts_any ps pa pc W h hpl hsm)
  have HKs := Lib.hid (fun b es W (h : MBox W b es) (hC : CntM es (allT ps)) => keysCnt_any b es (allT ps) W h hC hatl (allT_small hsm))
  generalize keysS (allT ps) = K at *
  generalize lackX l ps rs each = bx at *
  generalize lackO l ps rs each = out at *
  generalize fieldE l ps rs [] = er at *
  go_enter Tryz.func32, Tryz.ntmps32
  go_wp2_with fail
  refine HF.out.mono ?_
  rintro e W1 ⟨hb1, hcase⟩
  rcases hcase with ⟨hne, rfl⟩ | ⟨h0, xb, rfl, hX⟩
  · have hq : (er != 0) = true := by simpa using hne
    have Her := Lib.hid (HX1.out hne)
    have Hout := Lib.hid (HO1.out (by rw [Her.out]; exact hne))
    clear hne HX1 HX2 HO1 HO2
    go_wp2_with fail
    go_ret2
    exact ⟨hb1, none, 0, by rw [Hout.out, Her.out]; rfl, .inl Hout.out⟩
  · subst h0
    replace HX2 := Lib.hid (HX2.out rfl)
    replace HNd := Lib.hid (HNd.out rfl)
    have hP1 := hP.below hb1
    have hR1 := hR.below hb1
    clear HF HX1 hX hP hR hE0 hl
    by_cases hout : each < 1 ∨ 20 < each
    · have Her := Lib.hid (HX2.out.trans (if_pos hout))
      have Hout := Lib.hid (HO1.out (by rw [Her.out]; decide))
      clear HO1 HO2 HX2
      go_wp2_with fail
      refine (outside_yes each 1 20 _ hout).mono ?_
      rintro e w2 ⟨rfl, rfl⟩
      go_wp2_with fail
      go_ret2
      exact ⟨hb1, none, 0, by rw [Hout.out, Her.out]; rfl, .inl Hout.out⟩
    · have Her := Lib.hid (HX2.out.trans (if_neg hout))
      have Hout := Lib.hid (HO2.out Her.out)
      have he1 : 1 ≤ each := by omega
      have he20 : each ≤ 20 := by omega
      clear HO1 HO2 HX2 hout
      go_wp2_with fail
      refine (outside_no each 1 20 _ (by omega) (by omega)).mono ?_
      rintro e w2 ⟨rfl, rfl⟩
      go_wp2_with fail
      refine (HC.out _ hP1).mono ?_
      rintro e W3 ⟨mb, es, rfl, hM, hCn, hb3⟩
      have HCn := Lib.hid hCn
      clear hCn
      go_wp2_with fail
      refine (HKs.out mb es _ hM HCn.out).mono ?_
      rintro e W4 ⟨v4, rfl, hown4, hb4⟩
      obtain ⟨ka, kc, rfl, hka, -, -⟩ := hown4.sa
      have hb34 := below_next hb3 hb4
      have hR4 := hR1.below hb34
      have hM4 := hM.below hb4
      have hb04 := below_next hb1 hb34
      clear HC HKs hP1 hR1 hown4 hM hb3 hb4 hb34
      go_wp2_with fail
      go_loopg [13, 36] K.length (fun gk v i wr => ∃ k : Nat, i = .int .i64 k ∧ k ≤ K.length ∧ Hid (gk = K.length - k) ∧ Own W4.heap.size 72 wr v (lackL ps rs each (K.take k)) ∧ Below W4.heap.size W4 wr)
      case atStart => exact ⟨0, rfl, by omega, rfl, by rw [HL0.out]; exact Own.nil _ _ _, Below.refl _ _⟩
      obtain ⟨k, rfl, hk, hgk, hown, hb⟩ := hrel
      have hzr := hb.size
      by_cases hlt : k < K.length
      · obtain ⟨cb, coff, hca, c0⟩ := (hka.below hb).str hlt
        have HSt := Lib.hid (HSn.out k hlt)
        have hal := HLn.out k
        rw [List.length_take] at hal
        have Ha := Lib.hid hca
        rw [hca]
        clear hca
        generalize K[k] = t at *
        unfold lack1 at HSt
        obtain ⟨acc2, ha2⟩ : ∃ a, lackL ps rs each (K.take (k + 1)) = a := ⟨_, rfl⟩
        rw [ha2] at HSt
        have HA2 := Lib.hid ha2
        clear ha2
        generalize lackL ps rs each (K.take k) = acc at *
        have hpn1 := papN_le ps t
        obtain ⟨pn, hpn⟩ : ∃ p : Int, ((papN ps t : Nat) : Int) = p := ⟨_, rfl⟩
        have hpn0 : 0 ≤ pn := by omega
        have hpn2 : pn ≤ 1000000 := by omega
        rw [hpn] at HSt
        have hbp : Below W4.heap.size W4 (wr.alloc (.cells #[.string t] 9)) := by (repeat' (first | exact Below.refl _ _ | assumption | refine Below.setCell ?_ ?_ _ | refine below_drewN ?_ _ | refine Below.drew ?_ | refine Below.alloc ?_ ?_ _ | (with_reducible refine Below.trans ?_ (Below.mono hb ?_)) | (with_reducible refine Below.trans ?_ (Below.mono hb0 ?_)) | (with_reducible refine Below.trans ?_ (Below.mono hb1 ?_)) | (with_reducible refine Below.trans ?_ (Below.mono hb2 ?_)) | (with_reducible refine Below.trans ?_ (Below.mono hb3 ?_)) | (with_reducible refine Below.trans ?_ (Below.mono hb4 ?_)) | (with_reducible refine Below.trans ?_ (Below.mono hb5 ?_)) | (with_reducible refine Below.trans ?_ (Below.mono hb6 ?_)) | (with_reducible refine Below.trans ?_ (Below.mono hb7 ?_)) | (with_reducible refine Below.trans ?_ (Below.mono hb8 ?_)) | (with_reducible refine Below.trans ?_ (Below.mono hb9 ?_)) | (with_reducible refine Below.trans ?_ (Below.mono hb10 ?_)) | (with_reducible refine Below.trans ?_ (Below.mono hb11 ?_)) | (with_reducible refine Below.trans ?_ (Below.mono hb12 ?_)) | (with_reducible refine Below.trans ?_ (Below.mono hb13 ?_)) | (with_reducible refine Below.trans ?_ (Below.mono hb14 ?_)) | (with_reducible refine Below.trans ?_ (Below.mono hb15 ?_)) | omega | (simp; done) | (simp; omega)))
        have hlk := HCn.out.look (hM4.below hbp) t
        rw [HNd.out t, hpn] at hlk
        clear hpn hpn1
        have hk1 : (0 : Int) ≤ (k : Int) := by omega
        have hk2 : (k : Int) < (K.length : Int) := by omega
        have hTp := Box.new wr 9 #[.string t]
        have hownp := hown.alloc (.cells #[.string t] 9)
        have hRp := hR4.below hbp
        have hsz : (wr.alloc (.cells #[.string t] 9)).heap.size = wr.heap.size + 1 := by simp
        have hSb := Box.newAt (wr.alloc (.cells #[.string t] 9)) (wr.heap.size + 1) 72 #[.string t, .int .i64 pn, .int .i64 0] (by simp)
        have hbW := Below.alloc (Below.refl (wr.alloc (.cells #[.string t] 9)).heap.size (wr.alloc (.cells #[.string t] 9))) (Nat.le_refl _) (.cells #[.string t, .int .i64 pn, .int .i64 0] 72)
        have hT0 := hTp.cell 0
        clear hown
        go_wp2_with fail
        clear hT0 hlk
        rename World => wo
        generalize wo.alloc (.cells #[.string t] 9) = Wp at *
        go_loopg [47] rs.length (fun gj i wx => ∃ j : Nat, i = .int .i64 j ∧ j ≤ rs.length ∧ Hid (gj = rs.length - j) ∧ Box wx (wo.heap.size + 1) 72 #[.string t, .int .i64 pn, .int .i64 ((goodN (rs.take j) t : Nat) : Int)] ∧ Below Wp.heap.size Wp wx)
        case atStart => exact ⟨0, rfl, by omega, rfl, hSb, hbW⟩
        clear hSb hbW
        obtain ⟨j, rfl, hj, hgj, hSb, hbx⟩ := hrel
        have hzx := hbx.size
        by_cases hjl : j < rs.length
        · obtain ⟨qb, qoff, hqa, d0, d1⟩ := (hRp.below hbx).1.reader hjl
          have hsk := hRp.2 rs[j] (List.getElem_mem hjl)
          have hrs := hrm rs[j] (List.getElem_mem hjl)
          have Hgn := Lib.hid (goodN_snoc hjl t)
          have hgl := goodN_le (rs.take j) t
          rw [List.length_take] at hgl
          have Hq := Lib.hid hqa
          rw [hqa]
          clear hqa
          generalize rs[j] = r at *
          obtain ⟨y1, y2, y3, y4⟩ := r
          simp only at d0 d1 hsk hrs Hgn
          obtain ⟨gn, hgn⟩ : ∃ g, goodN (rs.take j) t = g := ⟨_, rfl⟩
          rw [hgn] at Hgn hgl hSb
          clear hgn
          have hbA : Below Wp.heap.size Wp (wr.alloc (.cells #[.string y1, .slice y3 y2.length y4] 92)) := by (repeat' (first | exact Below.refl _ _ | assumption | refine Below.setCell ?_ ?_ _ | refine below_drewN ?_ _ | refine Below.drew ?_ | refine Below.alloc ?_ ?_ _ | (with_reducible refine Below.trans ?_ (Below.mono hb ?_)) | (with_reducible refine Below.trans ?_ (Below.mono hb0 ?_)) | (with_reducible refine Below.trans ?_ (Below.mono hb1 ?_)) | (with_reducible refine Below.trans ?_ (Below.mono hb2 ?_)) | (with_reducible refine Below.trans ?_ (Below.mono hb3 ?_)) | (with_reducible refine Below.trans ?_ (Below.mono hb4 ?_)) | (with_reducible refine Below.trans ?_ (Below.mono hb5 ?_)) | (with_reducible refine Below.trans ?_ (Below.mono hb6 ?_)) | (with_reducible refine Below.trans ?_ (Below.mono hb7 ?_)) | (with_reducible refine Below.trans ?_ (Below.mono hb8 ?_)) | (with_reducible refine Below.trans ?_ (Below.mono hb9 ?_)) | (with_reducible refine Below.trans ?_ (Below.mono hb10 ?_)) | (with_reducible refine Below.trans ?_ (Below.mono hb11 ?_)) | (with_reducible refine Below.trans ?_ (Below.mono hb12 ?_)) | (with_reducible refine Below.trans ?_ (Below.mono hb13 ?_)) | (with_reducible refine Below.trans ?_ (Below.mono hb14 ?_)) | (with_reducible refine Below.trans ?_ (Below.mono hb15 ?_)) | omega | (simp; done) | (simp; omega)))
          have hSA := hSb.alloc (.cells #[.string y1, .slice y3 y2.length y4] 92)
          have hBr := Box.new wr 92 #[.string y1, .slice y3 y2.length y4]
          have HFs := Lib.hid (findSkill_any y2 y3 y4 89 #[.pointer (some ⟨wo.heap.size, 0, none⟩)] (goodS t) _ (enters_of Tryz.func89 (by kernel_rfl) rfl) (hsk.below hbA) (by have := hrs.2; simp only at this; omega) (fun x hx W' hb' => lackClo_any x wo.heap.size t W' (((hTp.below hbA).below hb').cell 0)))
          have hBr_l := hBr.lt; have hBr_0 := hBr.cell 0; have hBr_1 := hBr.cell 1; simp at hBr_0 hBr_1
          clear hSb
          go_wp2_with fail
          refine HFs.out.mono ?_
          rintro e w3 ⟨rfl, hb3⟩
          have hb3A := below_next hbA hb3
          have hS3 := hSA.below hb3
          have hz3 := hb3A.size
          clear hBr hBr_l hBr_0 hBr_1 hSA HFs hb3 hbA
          cases hg : y2.any (goodS t)
          · rw [hg] at Hgn
            have Hgn2 : Hid (goodN (rs.take (j + 1)) t = gn) := by show _ = _; rw [Hgn.out]; simp
            clear hg Hgn
            go_wp2_with fail
            rw [← Hq.out]
            go_roundg (rs.length - (j + 1))
            case measure => have := hgj.out; omega
            case rel => exact ⟨j + 1, by go_num, by omega, rfl, by rw [Hgn2.out]; exact hS3, hb3A⟩
          · rw [hg] at Hgn
            have Hgn2 : Hid (goodN (rs.take (j + 1)) t = gn + 1) := by show _ = _; rw [Hgn.out]; simp
            clear hg Hgn
            have hw : IntKind.i64.wrap ((gn : Int) + 1) = (gn : Int) + 1 := IntWalk.i64_in _ (by omega)
            have hfr := hS3.frozen 2
            have hS4 := hS3.set 2 (.int .i64 ((gn : Int) + 1))
            have hb4 : Below Wp.heap.size Wp (w3.setCell ⟨wo.heap.size + 1, 2, none⟩ (.int .i64 ((gn : Int) + 1))) := by (repeat' (first | exact Below.refl _ _ | assumption | refine Below.setCell ?_ ?_ _ | refine below_drewN ?_ _ | refine Below.drew ?_ | refine Below.alloc ?_ ?_ _ | (with_reducible refine Below.trans ?_ (Below.mono hb ?_)) | (with_reducible refine Below.trans ?_ (Below.mono hb0 ?_)) | (with_reducible refine Below.trans ?_ (Below.mono hb1 ?_)) | (with_reducible refine Below.trans ?_ (Below.mono hb2 ?_)) | (with_reducible refine Below.trans ?_ (Below.mono hb3 ?_)) | (with_reducible refine Below.trans ?_ (Below.mono hb4 ?_)) | (with_reducible refine Below.trans ?_ (Below.mono hb5 ?_)) | (with_reducible refine Below.trans ?_ (Below.mono hb6 ?_)) | (with_reducible refine Below.trans ?_ (Below.mono hb7 ?_)) | (with_reducible refine Below.trans ?_ (Below.mono hb8 ?_)) | (with_reducible refine Below.trans ?_ (Below.mono hb9 ?_)) | (with_reducible refine Below.trans ?_ (Below.mono hb10 ?_)) | (with_reducible refine Below.trans ?_ (Below.mono hb11 ?_)) | (with_reducible refine Below.trans ?_ (Below.mono hb12 ?_)) | (with_reducible refine Below.trans ?_ (Below.mono hb13 ?_)) | (with_reducible refine Below.trans ?_ (Below.mono hb14 ?_)) | (with_reducible refine Below.trans ?_ (Below.mono hb15 ?_)) | omega | (simp; done) | (simp; omega)))
            have hS3_l := hS3.lt; have hS3_0 := hS3.cell 0; have hS3_1 := hS3.cell 1; have hS3_2 := hS3.cell 2; simp at hS3_0 hS3_1 hS3_2
            clear hS3
            go_wp2_with fail
            rw [← Hq.out]
            go_roundg (rs.length - (j + 1))
            case measure => have := hgj.out; omega
            case rel => exact ⟨j + 1, by go_num, by omega, rfl, by rw [Hgn2.out, show ((gn + 1 : Nat) : Int) = (gn : Int) + 1 by omega]; exact hS4, hb4⟩
        · obtain rfl : j = rs.length := by omega
          rw [List.take_length] at hSb
          have hgl := goodN_le rs t
          generalize goodN rs t = gn at *
          have hbz := below_next hbp hbx
          have hzz := hbz.size
          have hownz := hownp.below hbx
          have hm1 : each * pn ≤ 20 * pn := Int.mul_le_mul_of_nonneg_right he20 hpn0
          have hm2 : 0 ≤ each * pn := Int.mul_nonneg (by omega) hpn0
          obtain ⟨ep, hep⟩ : ∃ e, each * pn = e := ⟨_, rfl⟩
          rw [hep] at hm1 hm2 HSt
          have hw : IntKind.i64.wrap (each * pn) = ep := by rw [hep]; exact IntWalk.i64_in _ (by omega)
          clear hep hjl hgj
          have hSb_l := hSb.lt; have hSb_0 := hSb.cell 0; have hSb_1 := hSb.cell 1; have hSb_2 := hSb.cell 2; simp at hSb_0 hSb_1 hSb_2
          by_cases hc : (gn : Int) < ep
          · have HSt2 := Lib.hid (HSt.out.trans (congrArg (acc ++ ·) (if_pos hc)))
            have hd : decide ((gn : Int) < ep) = true := decide_eq_true hc
            have hown1 := hownz.alloc (.cells #[.string t, .int .i64 pn, .int .i64 gn] 72)
            have hbo := Box.new wr 72 #[.string t, .int .i64 pn, .int .i64 gn]
            have hba : Below W4.heap.size W4 (wr.alloc (.cells #[.string t, .int .i64 pn, .int .i64 gn] 72)) := by (repeat' (first | exact Below.refl _ _ | assumption | refine Below.setCell ?_ ?_ _ | refine below_drewN ?_ _ | refine Below.drew ?_ | refine Below.alloc ?_ ?_ _ | (with_reducible refine Below.trans ?_ (Below.mono hb ?_)) | (with_reducible refine Below.trans ?_ (Below.mono hb0 ?_)) | (with_reducible refine Below.trans ?_ (Below.mono hb1 ?_)) | (with_reducible refine Below.trans ?_ (Below.mono hb2 ?_)) | (with_reducible refine Below.trans ?_ (Below.mono hb3 ?_)) | (with_reducible refine Below.trans ?_ (Below.mono hb4 ?_)) | (with_reducible refine Below.trans ?_ (Below.mono hb5 ?_)) | (with_reducible refine Below.trans ?_ (Below.mono hb6 ?_)) | (with_reducible refine Below.trans ?_ (Below.mono hb7 ?_)) | (with_reducible refine Below.trans ?_ (Below.mono hb8 ?_)) | (with_reducible refine Below.trans ?_ (Below.mono hb9 ?_)) | (with_reducible refine Below.trans ?_ (Below.mono hb10 ?_)) | (with_reducible refine Below.trans ?_ (Below.mono hb11 ?_)) | (with_reducible refine Below.trans ?_ (Below.mono hb12 ?_)) | (with_reducible refine Below.trans ?_ (Below.mono hb13 ?_)) | (with_reducible refine Below.trans ?_ (Below.mono hb14 ?_)) | (with_reducible refine Below.trans ?_ (Below.mono hb15 ?_)) | omega | (simp; done) | (simp; omega)))
            have Hol := Lib.hid hownz.lt
            clear hc hSb HSt hownz
            go_wp2_with (at_builtin; refine wpList_append_lie (α := Trio) rfl _ _ 62 rfl 72 32 (.agg #[.string ⟨#[]⟩, .int .i64 0, .int .i64 0]) Tryz.underlying62 Tryz.infoShort rfl _ acc rfl hown1 (t, pn, (gn : Int)) _ rfl hbo (by omega) (by omega) (by simp; omega) ?_; intro g9 cap9 w5 hown5 hg5 hat5)
            have hb5 := hba.grown hg5 (by simp; omega) (fun j hj => (Hol.out j hj).1)
            rw [← HSt2.out] at hown5
            rw [← Ha.out]
            (try go_wp2_with fail)
            go_roundg (K.length - (k + 1))
            case measure => have := hgk.out; omega
            case rel => exact ⟨k + 1, by go_num, by omega, rfl, by rw [HA2.out]; exact hown5, hb5⟩
          · have HSt2 := Lib.hid (HSt.out.trans (congrArg (acc ++ ·) (if_neg hc)))
            have hd : decide ((gn : Int) < ep) = false := decide_eq_false hc
            clear hc hSb HSt
            go_wp2_with fail
            rw [← Ha.out]
            go_roundg (K.length - (k + 1))
            case measure => have := hgk.out; omega
            case rel => exact ⟨k + 1, by go_num, by omega, rfl, by rw [HA2.out, HSt2.out, List.append_nil]; exact hownz, hbz⟩
      · obtain rfl : k = K.length := by omega
        rw [Hfin.out, ← Hout.out] at hown
        obtain ⟨oa, oc, rfl, hoa, -, -⟩ := hown.sa
        go_wp2_with fail
        go_ret2
        exact ⟨below_next hb04 hb, oa, oc, by rw [Her.out] <;> rfl, hoa⟩
end Go.Proofs.YtpgofjjcmldhpaaGreatDoor

/-! Bids that are odd. -/
namespace Go.Proofs.YtpgofjjcmldhpaaGreatDoor
open Go.RowKit
set_option linter.unusedVariables false
set_option linter.unusedSimpArgs false

abbrev Frc := Int × Int
instance : Cel Frc := ⟨2, fun t => [.int .i64 t.1, .int .i64 t.2], fun _ => rfl, by decide, by simp [Value.oneCell']⟩
theorem SA.frc {w : World} {a : Option Addr} {l : List Frc} (h : SA w a l) {i : Nat} (hi : i < l.length) :
    ∃ b off, a = some ⟨b, off, none⟩ ∧ w.cell? ⟨b, off + i * 2, none⟩ = some (.int .i64 l[i].1) ∧ w.cell? ⟨b, off + i * 2 + 1, none⟩ = some (.int .i64 l[i].2) := by
  obtain ⟨b, off, ha, hc⟩ := h.at hi
  exact ⟨b, off, ha, hc 0 (by decide), hc 1 (by decide)⟩
theorem Tryz.infoFrc : (Tryz.prog.info? 37).map (fun i => (i.zero, i.size, i.bytes)) = some (some (.agg #[.int .i64 0, .int .i64 0]), 2, 16) := by kernel_rfl
theorem Tryz.infoOdd : (Tryz.prog.info? 76).map (fun i => (i.zero, i.size, i.bytes)) = some (some (.agg #[.string ⟨#[]⟩, .int .i64 0, .int .i64 0]), 3, 32) := by kernel_rfl
def FrOk (f : Frc) : Prop := 0 ≤ f.1 ∧ f.1 ≤ f.2 ∧ 1 ≤ f.2 ∧ f.2 ≤ 2016000
def afF (l : List Topic) (s : List Skill) (p : Paper) : Frc := (affP l s p.topics, affQ l s p.topics)
theorem afF_ok {l : List Topic} {s : List Skill} {p : Paper} (hlen : l.length ≤ 1000) (hs : SkillFit l s) (ht : ∀ t ∈ p.topics, (ab l t).length ≤ 5) (h8 : p.topics.length ≤ 8) : FrOk (afF l s p) := by
  have h1 := aff_right hlen hs ht h8
  refine ⟨h1.2.2.1, h1.2.1, h1.2.2.2.2, ?_⟩
  unfold afF affQ
  simp only
  split
  · decide
  · next hne =>
    obtain ⟨_, q3, q4⟩ := aff_bd hlen hs ht h8
    generalize (affOf (knowns l s p.topics)).1 = A at *
    generalize (affOf (knowns l s p.topics)).2 = Q at *
    have e1 : Q * 1 ≤ Q * (p.topics.length : Int) := Int.mul_le_mul_of_nonneg_left (by omega) (by omega)
    have e2 : Q * (p.topics.length : Int) ≤ Q * 8 := Int.mul_le_mul_of_nonneg_left (by omega) (by omega)
    have e3 := (lowD_bd A (Q * (p.topics.length : Int)) (by omega)).2
    omega
/-- One fraction is less than another. -/
def lessF (f b : Frc) : Bool := decide (f.1 * b.2 < b.1 * f.2)
def mostF (fs : List Frc) : Frc := fs.foldl (fun m f => if lessF m f = true then f else m) (0, 1)
theorem mostF_snoc (fs : List Frc) (f : Frc) : mostF (fs ++ [f]) = if lessF (mostF fs) f = true then f else mostF fs := by unfold mostF; rw [List.foldl_append]; rfl
theorem mostF_ok {fs : List Frc} (h : ∀ f ∈ fs, FrOk f) : FrOk (mostF fs) := by
  have : ∀ (fs : List Frc) (m : Frc), FrOk m → (∀ f ∈ fs, FrOk f) → FrOk (fs.foldl (fun m f => if lessF m f = true then f else m) m) := by
    intro fs
    induction fs with
    | nil => intro m hm _; exact hm
    | cons x r ih =>
      intro m hm hf
      rw [List.foldl_cons]
      refine ih _ ?_ fun f hf' => hf f (List.mem_cons_of_mem _ hf')
      split
      · exact hf x (List.mem_cons_self ..)
      · exact hm
  exact this fs (0, 1) ⟨by decide, by decide, by decide, by decide⟩ h
def bndF (percent : Int) (m : Frc) : Frc := (lowN (percent * m.1) (100 * m.2), lowD (percent * m.1) (100 * m.2))
theorem bndF_bd {percent : Int} {m : Frc} (h1 : 1 ≤ percent) (h2 : percent ≤ 100) (h : FrOk m) : (0 ≤ percent * m.1 ∧ percent * m.1 ≤ 201600000) ∧ (0 ≤ (bndF percent m).1 ∧ (bndF percent m).1 ≤ 201600000) ∧ 1 ≤ (bndF percent m).2 ∧ (bndF percent m).2 ≤ 201600000 := by
  obtain ⟨a1, a2, a3, a4⟩ := h
  have e1 : percent * m.1 ≤ 100 * m.1 := Int.mul_le_mul_of_nonneg_right h2 a1
  have e2 : 0 ≤ percent * m.1 := Int.mul_nonneg (by omega) a1
  have e3 := lowN_bd (percent * m.1) (100 * m.2) e2 (by omega)
  have e4 := lowD_bd (percent * m.1) (100 * m.2) (by omega)
  unfold bndF
  simp only
  omega
/-- A product of two small numbers. -/
theorem prod_bd {a b : Int} (h1 : 0 ≤ a) (h2 : a ≤ 201600000) (h3 : 0 ≤ b) (h4 : b ≤ 201600000) : 0 ≤ a * b ∧ a * b ≤ 40642560000000000 := by
  have e1 : a * b ≤ 201600000 * b := Int.mul_le_mul_of_nonneg_right h2 h3
  have e2 : 0 ≤ a * b := Int.mul_nonneg h1 h3
  omega
theorem lessF_any (f b : Frc) (w : World) (h1 : 0 ≤ f.1 ∧ f.1 ≤ 201600000) (h2 : 0 ≤ f.2 ∧ f.2 ≤ 201600000) (h3 : 0 ≤ b.1 ∧ b.1 ≤ 201600000) (h4 : 0 ≤ b.2 ∧ b.2 ≤ 201600000) :
    Calls Tryz.prog 124 #[.agg #[.int .i64 f.1, .int .i64 f.2], .agg #[.int .i64 b.1, .int .i64 b.2]] w (Gives (.bool (lessF f b)) w) := by
  have e1 := prod_bd h1.1 h1.2 h4.1 h4.2
  have e2 := prod_bd h3.1 h3.2 h2.1 h2.2
  exact less_any f.1 f.2 b.1 b.2 w (by omega) (by omega) (by omega) (by omega)
theorem cmpF_any (f b : Frc) (w : World) (h1 : 0 ≤ f.1 ∧ f.1 ≤ 201600000) (h2 : 0 ≤ f.2 ∧ f.2 ≤ 201600000) (h3 : 0 ≤ b.1 ∧ b.1 ≤ 201600000) (h4 : 0 ≤ b.2 ∧ b.2 ≤ 201600000) :
    Calls Tryz.prog 95 #[.agg #[.int .i64 f.1, .int .i64 f.2], .agg #[.int .i64 b.1, .int .i64 b.2]] w (Gives (.int .i64 (cmpZ (f.1 * b.2) (b.1 * f.2))) w) := by
  have e1 := prod_bd h1.1 h1.2 h4.1 h4.2
  have e2 := prod_bd h3.1 h3.2 h2.1 h2.2
  exact compareFractions_any f.1 f.2 b.1 b.2 w (by omega) (by omega) (by omega) (by omega)
theorem cmpZ_lessF (f b : Frc) : decide (cmpZ (f.1 * b.2) (b.1 * f.2) < 0) = lessF f b := by
  unfold cmpZ lessF
  by_cases h : f.1 * b.2 < b.1 * f.2
  · rw [if_pos h, decide_eq_true h]; rfl
  · rw [if_neg h, decide_eq_false h]; split <;> rfl
theorem cmpZ_moreF (f m : Frc) : decide (0 < cmpZ (f.1 * m.2) (m.1 * f.2)) = lessF m f := by
  unfold cmpZ lessF
  by_cases h : f.1 * m.2 < m.1 * f.2
  · rw [if_pos h, decide_eq_false (show ¬ m.1 * f.2 < f.1 * m.2 by omega)]; rfl
  · rw [if_neg h]
    by_cases h2 : m.1 * f.2 < f.1 * m.2
    · rw [if_pos h2, decide_eq_true h2]; rfl
    · rw [if_neg h2, decide_eq_false h2]; rfl
def hiB (l : List Topic) (bs : List Mark) (s : List Skill) (y : ByteArray) (b : Frc) (p : Paper) : Bool := decide (3 ≤ lvO bs (p.id, y)) && lessF (afF l s p) b
def loB (l : List Topic) (bs : List Mark) (s : List Skill) (y : ByteArray) (b : Frc) (p : Paper) : Bool := decide (lvO bs (p.id, y) = 1) && !lessF (afF l s p) b
def hiN (l : List Topic) (bs : List Mark) (s : List Skill) (y : ByteArray) (b : Frc) (ps : List Paper) : Nat := ps.countP (hiB l bs s y b)
def loN (l : List Topic) (bs : List Mark) (s : List Skill) (y : ByteArray) (b : Frc) (ps : List Paper) : Nat := ps.countP (loB l bs s y b)
theorem hiN_snoc (l : List Topic) (bs : List Mark) (s : List Skill) (y : ByteArray) (b : Frc) {ps : List Paper} {k : Nat} (hk : k < ps.length) : hiN l bs s y b (ps.take (k + 1)) = hiN l bs s y b (ps.take k) + if hiB l bs s y b ps[k] = true then 1 else 0 := by
  unfold hiN; rw [List.take_succ_eq_append_getElem hk, List.countP_append]; simp
theorem loN_snoc (l : List Topic) (bs : List Mark) (s : List Skill) (y : ByteArray) (b : Frc) {ps : List Paper} {k : Nat} (hk : k < ps.length) : loN l bs s y b (ps.take (k + 1)) = loN l bs s y b (ps.take k) + if loB l bs s y b ps[k] = true then 1 else 0 := by
  unfold loN; rw [List.take_succ_eq_append_getElem hk, List.countP_append]; simp
theorem hiN_le (l : List Topic) (bs : List Mark) (s : List Skill) (y : ByteArray) (b : Frc) (ps : List Paper) : hiN l bs s y b ps ≤ ps.length := List.countP_le_length
theorem loN_le (l : List Topic) (bs : List Mark) (s : List Skill) (y : ByteArray) (b : Frc) (ps : List Paper) : loN l bs s y b ps ≤ ps.length := List.countP_le_length
/-- The greatest affinity of a reader, and what is odd below it. -/
def mostP (l : List Topic) (s : List Skill) (ps : List Paper) : Frc := mostF (ps.map (afF l s))
theorem mostP_snoc (l : List Topic) (s : List Skill) {ps : List Paper} {k : Nat} (hk : k < ps.length) : mostP l s (ps.take (k + 1)) = if lessF (mostP l s (ps.take k)) (afF l s ps[k]) = true then afF l s ps[k] else mostP l s (ps.take k) := by
  unfold mostP; rw [List.take_succ_eq_append_getElem hk, List.map_append]; exact mostF_snoc _ _
def oddT (l : List Topic) (bs : List Mark) (ps : List Paper) (percent : Int) (r : Reader) : Trio :=
  (r.key, ((hiN l bs r.skills r.key (bndF percent (mostP l r.skills ps)) ps : Nat) : Int), ((loN l bs r.skills r.key (bndF percent (mostP l r.skills ps)) ps : Nat) : Int))
def odd1 (l : List Topic) (bs : List Mark) (ps : List Paper) (percent : Int) (r : Reader) : List Trio := if 0 < (oddT l bs ps percent r).2.1 ∨ (ps.length : Int) < 2 * (oddT l bs ps percent r).2.2 then [oddT l bs ps percent r] else []
def oddL (l : List Topic) (bs : List Mark) (ps : List Paper) (percent : Int) (rs : List Reader) : List Trio := rs.flatMap (odd1 l bs ps percent)
theorem oddL_snoc (l : List Topic) (bs : List Mark) (ps : List Paper) (percent : Int) {rs : List Reader} {k : Nat} (hk : k < rs.length) : oddL l bs ps percent (rs.take (k + 1)) = oddL l bs ps percent (rs.take k) ++ odd1 l bs ps percent rs[k] := by
  unfold oddL; rw [List.take_succ_eq_append_getElem hk, List.flatMap_append]; simp
theorem oddL_len (l : List Topic) (bs : List Mark) (ps : List Paper) (percent : Int) : ∀ rs : List Reader, (oddL l bs ps percent rs).length ≤ rs.length
  | [] => by simp [oddL]
  | t :: r => by
    have ih := oddL_len l bs ps percent r
    unfold oddL at *
    rw [List.flatMap_cons, List.length_append, List.length_cons]
    have : (odd1 l bs ps percent t).length ≤ 1 := by unfold odd1; split <;> simp
    omega
def oddX (l : List Topic) (ps : List Paper) (rs : List Reader) (bs : List Mark) (percent : Int) : Int := if fieldE l ps rs bs ≠ 0 then fieldE l ps rs bs else if percent < 1 ∨ 100 < percent then 1 else 0
def oddO (l : List Topic) (ps : List Paper) (rs : List Reader) (bs : List Mark) (percent : Int) : List Trio := if oddX l ps rs bs percent = 0 then oddL l bs ps percent rs else []
end Go.Proofs.YtpgofjjcmldhpaaGreatDoor

/-! Bids that are odd: the reference. -/
namespace Go.Proofs.YtpgofjjcmldhpaaGreatDoor
open Go.RowKit
set_option linter.unusedVariables false
set_option linter.unusedSimpArgs false

/-- What is counted at one paper. -/
theorem hiB_at {l : List Topic} {bs : List Mark} {s : List Skill} {y : ByteArray} {b f : Frc} {p : Paper} {lv : Int} {le : Bool} (h1 : lvO bs (p.id, y) = lv) (h2 : lessF (afF l s p) b = le) : hiB l bs s y b p = (decide (3 ≤ lv) && le) := by
  unfold hiB; rw [h1, h2]
theorem loB_at {l : List Topic} {bs : List Mark} {s : List Skill} {y : ByteArray} {b f : Frc} {p : Paper} {lv : Int} {le : Bool} (h1 : lvO bs (p.id, y) = lv) (h2 : lessF (afF l s p) b = le) : loB l bs s y b p = (decide (lv = 1) && !le) := by
  unfold loB; rw [h1, h2]
set_option maxRecDepth 100000 in
set_option maxHeartbeats 16000000 in
theorem oddOf_any (l : List Topic) (al : Option Addr) (capl : Nat) (ps : List Paper) (pa : Option Addr) (pc : Nat) (rs : List Reader) (ra : Option Addr) (rc : Nat) (bs : List Mark) (ba : Option Addr) (bc : Nat) (percent : Int) (w : World) (hl : SA w al l) (hP : PapersAt w pa ps) (hR : ReadersAt w ra rs) (hB : SA w ba bs)
    (hpl : ps.length ≤ 1000) (hrl : rs.length ≤ 1000) (hrm : ∀ r ∈ rs, RSmall r) (hbl : bs.length ≤ 1000000) (hz : fieldE l ps rs bs = 0) (h1 : 1 ≤ percent) (h2 : percent ≤ 100) :
    Calls Tryz.prog 39 #[.slice al l.length capl, .slice pa ps.length pc, .slice ra rs.length rc, .slice ba bs.length bc, .int .i64 percent] w (GivesOwn 76 (oddL l bs ps percent rs) w) := by
  obtain ⟨z1, z2, z3, z4, z5, z6⟩ := field_right hz
  have hlen := forest_len z1
  have HA : Hid (∀ (r : Reader) (hr : r ∈ rs) (p : Paper) (hp : p ∈ ps) W, SA W al l → SA W r.a r.skills → SA W p.a2 p.topics → Calls Tryz.prog 82 #[.slice al l.length capl, .slice r.a r.skills.length r.c, .slice p.a2 p.topics.length p.c2] W (Gives (.agg #[.int .i64 (afF l r.skills p).1, .int .i64 (afF l r.skills p).2]) W)) := fun r hr p hp W h1 h2 h3 => by
    have h := affinityOf_any l al capl r.skills r.a r.c p.topics p.a2 p.c2 W h1 h2 h3 hlen (by have := (hrm r hr).2; omega) (wanted_fit z1 (want_right z3 p hp)).1 (skills_fit z1 (readers_right z4 r hr)) (wanted_fit z1 (want_right z3 p hp)).2
    rw [affV_eq] at h
    exact h
  have HQ : Hid (∀ (r : Reader) (hr : r ∈ rs) (p : Paper) (hp : p ∈ ps), FrOk (afF l r.skills p)) := fun r hr p hp => afF_ok hlen (skills_fit z1 (readers_right z4 r hr)) (wanted_fit z1 (want_right z3 p hp)).2 (wanted_fit z1 (want_right z3 p hp)).1
  have HM : Hid (∀ r ∈ rs, ∀ k, FrOk (mostP l r.skills (ps.take k))) := fun r hr k => mostF_ok (by intro f hf; obtain ⟨p, hp, rfl⟩ := List.mem_map.1 hf; exact HQ.out r hr p (List.mem_of_mem_take hp))
  have HLv := Lib.hid (fun k => lvO_bd z5 k)
  have HLo := Lib.hid (fun k1 k2 W h => levelOf_any bs ba bc k1 k2 W h hbl)
  have HSn := Lib.hid (fun k hk => oddL_snoc l bs ps percent (rs := rs) (k := k) hk)
  have HLn := Lib.hid (fun k => oddL_len l bs ps percent (rs.take k))
  have Hfin := Lib.hid (show oddL l bs ps percent (rs.take rs.length) = oddL l bs ps percent rs by rw [List.take_length])
  have HL0 := Lib.hid (show oddL l bs ps percent (rs.take 0) = [] from rfl)
  clear z1 z2 z3 z4 z5 z6 hz hlen
  go_enter Tryz.func39, Tryz.ntmps39
  go_wp2_with fail
  go_loopg [11, 25] rs.length (fun gk v i wr => ∃ k : Nat, i = .int .i64 k ∧ k ≤ rs.length ∧ Hid (gk = rs.length - k) ∧ Own w.heap.size 76 wr v (oddL l bs ps percent (rs.take k)) ∧ Below w.heap.size w wr)
  case atStart => exact ⟨0, rfl, by omega, rfl, by rw [HL0.out]; exact Own.nil _ _ _, Below.refl _ _⟩
  obtain ⟨k, rfl, hk, hgk, hown, hb⟩ := hrel
  have hzr := hb.size
  by_cases hlt : k < rs.length
  · obtain ⟨cb, coff, hca, c0, c1⟩ := (hR.below hb).1.reader hlt
    have hsk := (hR.below hb).2 rs[k] (List.getElem_mem hlt)
    have HAk := Lib.hid (HA.out rs[k] (List.getElem_mem hlt))
    have HQk := Lib.hid (HQ.out rs[k] (List.getElem_mem hlt))
    have HMk := Lib.hid (HM.out rs[k] (List.getElem_mem hlt))
    have HSt := Lib.hid (HSn.out k hlt)
    have hal := HLn.out k
    rw [List.length_take] at hal
    have Ha := Lib.hid hca
    rw [hca]
    clear hca
    generalize rs[k] = r at *
    obtain ⟨y1, y2, y3, y4⟩ := r
    unfold odd1 oddT at HSt
    simp only at c0 c1 hsk HAk HQk HMk HSt
    obtain ⟨acc2, ha2⟩ : ∃ a, oddL l bs ps percent (rs.take (k + 1)) = a := ⟨_, rfl⟩
    rw [ha2] at HSt
    have HA2 := Lib.hid ha2
    clear ha2
    generalize oddL l bs ps percent (rs.take k) = acc at *
    have hk1 : (0 : Int) ≤ (k : Int) := by omega
    have hk2 : (k : Int) < (rs.length : Int) := by omega
    have hbp : Below w.heap.size w (wr.alloc (.cells #[.string y1, .slice y3 y2.length y4] 92)) := by (repeat' (first | exact Below.refl _ _ | assumption | refine Below.setCell ?_ ?_ _ | refine below_drewN ?_ _ | refine Below.drew ?_ | refine Below.alloc ?_ ?_ _ | (with_reducible refine Below.trans ?_ (Below.mono hb ?_)) | (with_reducible refine Below.trans ?_ (Below.mono hb0 ?_)) | (with_reducible refine Below.trans ?_ (Below.mono hb1 ?_)) | (with_reducible refine Below.trans ?_ (Below.mono hb2 ?_)) | (with_reducible refine Below.trans ?_ (Below.mono hb3 ?_)) | (with_reducible refine Below.trans ?_ (Below.mono hb4 ?_)) | (with_reducible refine Below.trans ?_ (Below.mono hb5 ?_)) | (with_reducible refine Below.trans ?_ (Below.mono hb6 ?_)) | (with_reducible refine Below.trans ?_ (Below.mono hb7 ?_)) | (with_reducible refine Below.trans ?_ (Below.mono hb8 ?_)) | (with_reducible refine Below.trans ?_ (Below.mono hb9 ?_)) | (with_reducible refine Below.trans ?_ (Below.mono hb10 ?_)) | (with_reducible refine Below.trans ?_ (Below.mono hb11 ?_)) | (with_reducible refine Below.trans ?_ (Below.mono hb12 ?_)) | (with_reducible refine Below.trans ?_ (Below.mono hb13 ?_)) | (with_reducible refine Below.trans ?_ (Below.mono hb14 ?_)) | (with_reducible refine Below.trans ?_ (Below.mono hb15 ?_)) | omega | (simp; done) | (simp; omega)))
    have hRd := Box.new wr 92 #[.string y1, .slice y3 y2.length y4]
    have hownp := hown.alloc (.cells #[.string y1, .slice y3 y2.length y4] 92)
    have hskp := hsk.alloc (.cells #[.string y1, .slice y3 y2.length y4] 92)
    have hPp := hP.below hbp
    have hlp := hl.below hbp
    have hBp := hB.below hbp
    have hsz : (wr.alloc (.cells #[.string y1, .slice y3 y2.length y4] 92)).heap.size = wr.heap.size + 1 := by simp
    have hSb := Box.newAt (wr.alloc (.cells #[.string y1, .slice y3 y2.length y4] 92)) (wr.heap.size + 1) 37 #[.int .i64 0, .int .i64 1] (by simp)
    have hbW := Below.alloc (Below.refl (wr.alloc (.cells #[.string y1, .slice y3 y2.length y4] 92)).heap.size (wr.alloc (.cells #[.string y1, .slice y3 y2.length y4] 92))) (Nat.le_refl _) (.cells #[.int .i64 0, .int .i64 1] 37)
    clear hown hsk
    go_wp2_with fail
    rename World => wo
    generalize wo.alloc (.cells #[.string y1, .slice y3 y2.length y4] 92) = Wp at *
    have Hsz := Lib.hid hsz
    clear hsz
    go_loopg [32] ps.length (fun gj i wx => ∃ j : Nat, i = .int .i64 j ∧ j ≤ ps.length ∧ Hid (gj = ps.length - j) ∧ Box wx (wo.heap.size + 1) 37 #[.int .i64 (mostP l y2 (ps.take j)).1, .int .i64 (mostP l y2 (ps.take j)).2] ∧ Below Wp.heap.size Wp wx)
    case atStart => exact ⟨0, rfl, by omega, rfl, hSb, hbW⟩
    clear hSb hbW
    obtain ⟨j, rfl, hj, hgj, hSb, hbx⟩ := hrel
    have hzx := hbx.size
    have hsz := Hsz.out
    by_cases hjl : j < ps.length
    · obtain ⟨pb, poff, hqa, d0, d1, d2, d3, d4⟩ := (hPp.below hbx).1.paper hjl
      have hrd := hPp.2 ps[j] (List.getElem_mem hjl)
      have HAj := Lib.hid (HAk.out ps[j] (List.getElem_mem hjl))
      have hfo := HQk.out ps[j] (List.getElem_mem hjl)
      have Hq := Lib.hid hqa
      rw [hqa]
      clear hqa
      have Hmn := Lib.hid (mostP_snoc l y2 hjl)
      have hmo := HMk.out j
      generalize ps[j] = p at *
      obtain ⟨x1, x2, x3, au, tt, a1, n1, a2, n2⟩ := p
      obtain ⟨hr1, hr2, hr3⟩ := hrd
      generalize afF l y2 ⟨x1, x2, x3, au, tt, a1, n1, a2, n2⟩ = f at *
      obtain ⟨f1, f2⟩ := f
      obtain ⟨mm, hm⟩ : ∃ m, mostP l y2 (ps.take (j + 1)) = m := ⟨_, rfl⟩
      rw [hm] at Hmn
      have HM2 := Lib.hid hm
      clear hm
      generalize mostP l y2 (ps.take j) = m at *
      obtain ⟨m1, m2⟩ := m
      simp only at d0 d1 d2 d3 d4 hr1 hr2 hr3 HAj hSb
      obtain ⟨u1, u2, u3, u4⟩ := hfo
      obtain ⟨t1, t2, t3, t4⟩ := hmo
      simp only at u1 u2 u3 u4 t1 t2 t3 t4
      have HCm := Lib.hid (fun W => cmpF_any (f1, f2) (m1, m2) W ⟨u1, by show f1 ≤ _; omega⟩ ⟨by show 0 ≤ f2; omega, by show f2 ≤ _; omega⟩ ⟨t1, by show m1 ≤ _; omega⟩ ⟨by show 0 ≤ m2; omega, by show m2 ≤ _; omega⟩)
      have Hcm := Lib.hid (cmpZ_moreF (f1, f2) (m1, m2))
      simp only at HCm Hcm
      generalize cmpZ (f1 * m2) (m1 * f2) = cz at *
      have hbA : Below Wp.heap.size Wp (wr.alloc (.cells #[.string x1, .string x2, .string x3, .slice a1 au.length n1, .slice a2 tt.length n2] 86)) := by (repeat' (first | exact Below.refl _ _ | assumption | refine Below.setCell ?_ ?_ _ | refine below_drewN ?_ _ | refine Below.drew ?_ | refine Below.alloc ?_ ?_ _ | (with_reducible refine Below.trans ?_ (Below.mono hb ?_)) | (with_reducible refine Below.trans ?_ (Below.mono hb0 ?_)) | (with_reducible refine Below.trans ?_ (Below.mono hb1 ?_)) | (with_reducible refine Below.trans ?_ (Below.mono hb2 ?_)) | (with_reducible refine Below.trans ?_ (Below.mono hb3 ?_)) | (with_reducible refine Below.trans ?_ (Below.mono hb4 ?_)) | (with_reducible refine Below.trans ?_ (Below.mono hb5 ?_)) | (with_reducible refine Below.trans ?_ (Below.mono hb6 ?_)) | (with_reducible refine Below.trans ?_ (Below.mono hb7 ?_)) | (with_reducible refine Below.trans ?_ (Below.mono hb8 ?_)) | (with_reducible refine Below.trans ?_ (Below.mono hb9 ?_)) | (with_reducible refine Below.trans ?_ (Below.mono hb10 ?_)) | (with_reducible refine Below.trans ?_ (Below.mono hb11 ?_)) | (with_reducible refine Below.trans ?_ (Below.mono hb12 ?_)) | (with_reducible refine Below.trans ?_ (Below.mono hb13 ?_)) | (with_reducible refine Below.trans ?_ (Below.mono hb14 ?_)) | (with_reducible refine Below.trans ?_ (Below.mono hb15 ?_)) | omega | (simp; done) | (simp; omega)))
      have hSA := hSb.alloc (.cells #[.string x1, .string x2, .string x3, .slice a1 au.length n1, .slice a2 tt.length n2] 86)
      have hBo := Box.new wr 86 #[.string x1, .string x2, .string x3, .slice a1 au.length n1, .slice a2 tt.length n2]
      have hrc1 := (hRd.below hbA).cell 1
      have hr2A := hr2.below hbA
      have hBo_l := hBo.lt; have hBo_0 := hBo.cell 0; have hBo_1 := hBo.cell 1; have hBo_2 := hBo.cell 2; have hBo_3 := hBo.cell 3; have hBo_4 := hBo.cell 4; simp at hBo_0 hBo_1 hBo_2 hBo_3 hBo_4
      clear hSb
      go_wp2_with fail
      refine (HAj.out _ (hlp.below hbA) (hskp.below hbA) hr2A).mono ?_
      rintro e w3 ⟨rfl, hb3⟩
      have hb3A := below_next hbA hb3
      have hS3 := (hSA.below hb3).alloc (.cells #[.int .i64 f1, .int .i64 f2] 37)
      have hF3 := Box.new w3 37 #[.int .i64 f1, .int .i64 f2]
      have hz3 := hb3A.size
      have hb4A : Below Wp.heap.size Wp (w3.alloc (.cells #[.int .i64 f1, .int .i64 f2] 37)) := by (repeat' (first | exact Below.refl _ _ | assumption | refine Below.setCell ?_ ?_ _ | refine below_drewN ?_ _ | refine Below.drew ?_ | refine Below.alloc ?_ ?_ _ | (with_reducible refine Below.trans ?_ (Below.mono hb ?_)) | (with_reducible refine Below.trans ?_ (Below.mono hb0 ?_)) | (with_reducible refine Below.trans ?_ (Below.mono hb1 ?_)) | (with_reducible refine Below.trans ?_ (Below.mono hb2 ?_)) | (with_reducible refine Below.trans ?_ (Below.mono hb3 ?_)) | (with_reducible refine Below.trans ?_ (Below.mono hb4 ?_)) | (with_reducible refine Below.trans ?_ (Below.mono hb5 ?_)) | (with_reducible refine Below.trans ?_ (Below.mono hb6 ?_)) | (with_reducible refine Below.trans ?_ (Below.mono hb7 ?_)) | (with_reducible refine Below.trans ?_ (Below.mono hb8 ?_)) | (with_reducible refine Below.trans ?_ (Below.mono hb9 ?_)) | (with_reducible refine Below.trans ?_ (Below.mono hb10 ?_)) | (with_reducible refine Below.trans ?_ (Below.mono hb11 ?_)) | (with_reducible refine Below.trans ?_ (Below.mono hb12 ?_)) | (with_reducible refine Below.trans ?_ (Below.mono hb13 ?_)) | (with_reducible refine Below.trans ?_ (Below.mono hb14 ?_)) | (with_reducible refine Below.trans ?_ (Below.mono hb15 ?_)) | omega | (simp; done) | (simp; omega)))
      clear hBo hBo_l hBo_0 hBo_1 hBo_2 hBo_3 hBo_4 hSA hrc1 hb3 hbA hr2A
      have hS3_l := hS3.lt; have hS3_0 := hS3.cell 0; have hS3_1 := hS3.cell 1; simp at hS3_0 hS3_1
      have hF3_l := hF3.lt; have hF3_0 := hF3.cell 0; have hF3_1 := hF3.cell 1; simp at hF3_0 hF3_1
      go_wp2_with fail
      refine (HCm.out _).mono ?_
      rintro e w5 ⟨rfl, hb5⟩
      have hb5A := below_next hb4A hb5
      have hS5 := hS3.below hb5
      have hF5 := hF3.below hb5
      clear hS3 hS3_l hS3_0 hS3_1 hF3 hF3_l hF3_0 hF3_1 hb4A hb5
      cases hc : lessF (m1, m2) (f1, f2)
      · rw [hc] at Hmn Hcm
        have hd : decide (0 < cz) = false := Hcm.out
        have Hmn2 : Hid (mm = (m1, m2)) := Hmn
        clear hc Hmn Hcm
        go_wp2_with fail
        rw [← Hq.out]
        go_roundg (ps.length - (j + 1))
        case measure => have := hgj.out; omega
        case rel => exact ⟨j + 1, by go_num, by omega, rfl, by rw [HM2.out, Hmn2.out]; exact hS5, hb5A⟩
      · rw [hc] at Hmn Hcm
        have hd : decide (0 < cz) = true := Hcm.out
        have Hmn2 : Hid (mm = (f1, f2)) := Hmn
        clear hc Hmn Hcm
        have hS6 := (hS5.set 0 (.int .i64 f1)).set 1 (.int .i64 f2)
        have hfr := hS5.frozen 0
        have hfr1 := hS5.frozen 1
        have hz5 := hb5A.size
        have hb6A : Below Wp.heap.size Wp ((w5.setCell ⟨wo.heap.size + 1, 0, none⟩ (.int .i64 f1)).setCell ⟨wo.heap.size + 1, 1, none⟩ (.int .i64 f2)) := by (repeat' (first | exact Below.refl _ _ | assumption | refine Below.setCell ?_ ?_ _ | refine below_drewN ?_ _ | refine Below.drew ?_ | refine Below.alloc ?_ ?_ _ | (with_reducible refine Below.trans ?_ (Below.mono hb ?_)) | (with_reducible refine Below.trans ?_ (Below.mono hb0 ?_)) | (with_reducible refine Below.trans ?_ (Below.mono hb1 ?_)) | (with_reducible refine Below.trans ?_ (Below.mono hb2 ?_)) | (with_reducible refine Below.trans ?_ (Below.mono hb3 ?_)) | (with_reducible refine Below.trans ?_ (Below.mono hb4 ?_)) | (with_reducible refine Below.trans ?_ (Below.mono hb5 ?_)) | (with_reducible refine Below.trans ?_ (Below.mono hb6 ?_)) | (with_reducible refine Below.trans ?_ (Below.mono hb7 ?_)) | (with_reducible refine Below.trans ?_ (Below.mono hb8 ?_)) | (with_reducible refine Below.trans ?_ (Below.mono hb9 ?_)) | (with_reducible refine Below.trans ?_ (Below.mono hb10 ?_)) | (with_reducible refine Below.trans ?_ (Below.mono hb11 ?_)) | (with_reducible refine Below.trans ?_ (Below.mono hb12 ?_)) | (with_reducible refine Below.trans ?_ (Below.mono hb13 ?_)) | (with_reducible refine Below.trans ?_ (Below.mono hb14 ?_)) | (with_reducible refine Below.trans ?_ (Below.mono hb15 ?_)) | omega | (simp; done) | (simp; omega)))
        have hS5_l := hS5.lt; have hS5_0 := hS5.cell 0; have hS5_1 := hS5.cell 1; simp at hS5_0 hS5_1
        have hF5_l := hF5.lt; have hF5_0 := hF5.cell 0; have hF5_1 := hF5.cell 1; simp at hF5_0 hF5_1
        clear hS5 hF5
        go_wp2_with fail
        rw [← Hq.out]
        go_roundg (ps.length - (j + 1))
        case measure => have := hgj.out; omega
        case rel => exact ⟨j + 1, by go_num, by omega, rfl, by rw [HM2.out, Hmn2.out]; exact hS6, hb6A⟩
    · obtain rfl : j = ps.length := by omega
      rw [List.take_length] at hSb
      have hmo := HMk.out ps.length
      rw [List.take_length] at hmo
      generalize mostP l y2 ps = m at *
      obtain ⟨m1, m2⟩ := m
      have hbd := bndF_bd h1 h2 hmo
      have HPt : Hid (∀ W, Calls Tryz.prog 96 #[.int .i64 (percent * m1), .int .i64 (100 * m2)] W (Gives (.agg #[.int .i64 (bndF percent (m1, m2)).1, .int .i64 (bndF percent (m1, m2)).2]) W)) := fun W => part_any _ _ W (by obtain ⟨⟨_, _⟩, _⟩ := hbd; simp only at *; omega) (by obtain ⟨_, _, _, _⟩ := hmo; simp only at *; omega) (by obtain ⟨_, _, _, _⟩ := hmo; simp only at *; omega)
      obtain ⟨⟨e1, e2⟩, ⟨e3, e4⟩, e5, e6⟩ := hbd
      obtain ⟨t1, t2, t3, t4⟩ := hmo
      generalize bndF percent (m1, m2) = bd at *
      obtain ⟨b1, b2⟩ := bd
      simp only at e1 e2 e3 e4 e5 e6 t1 t2 t3 t4 hSb HPt
      have hwm : IntKind.i64.wrap (100 * m2) = 100 * m2 := IntWalk.i64_in _ (by omega)
      have hwp : IntKind.i64.wrap (percent * m1) = percent * m1 := IntWalk.i64_in _ (by omega)
      have hOb := Box.new wr 76 #[.string y1, .int .i64 0, .int .i64 0]
      have hbO := Below.alloc (Below.refl wr.heap.size wr) (Nat.le_refl _) (.cells #[.string y1, .int .i64 0, .int .i64 0] 76)
      replace hRd := hRd.below hbx
      replace hPp := hPp.below hbx
      replace hlp := hlp.below hbx
      replace hBp := hBp.below hbx
      replace hskp := hskp.below hbx
      replace hownp := hownp.below hbx
      replace hbp := below_next hbp hbx
      have hrc0 := hRd.cell 0
      clear hgj hj hjl hbx hsz Hsz HMk
      go_wp2_with fail
      clear hrc0
      rename World => wq
      go_loopg [53] ps.length (fun gj i wx => ∃ j : Nat, i = .int .i64 j ∧ j ≤ ps.length ∧ Hid (gj = ps.length - j) ∧ Box wx wq.heap.size 76 #[.string y1, .int .i64 ((hiN l bs y2 y1 (b1, b2) (ps.take j) : Nat) : Int), .int .i64 ((loN l bs y2 y1 (b1, b2) (ps.take j) : Nat) : Int)] ∧ Below wq.heap.size wq wx)
      case atStart => exact ⟨0, rfl, by omega, rfl, hOb, hbO⟩
      clear hOb hbO
      obtain ⟨j, rfl, hj, hgj, hOb, hbx⟩ := hrel
      have hzx := hbx.size
      by_cases hjl : j < ps.length
      · obtain ⟨pb, poff, hqa, d0, d1, d2, d3, d4⟩ := (hPp.below hbx).1.paper hjl
        have hrd := hPp.2 ps[j] (List.getElem_mem hjl)
        have HAj := Lib.hid (HAk.out ps[j] (List.getElem_mem hjl))
        have hfo := HQk.out ps[j] (List.getElem_mem hjl)
        have Hq := Lib.hid hqa
        rw [hqa]
        clear hqa
        have Hhn := hiN_snoc l bs y2 y1 (b1, b2) hjl
        have Hln := loN_snoc l bs y2 y1 (b1, b2) hjl
        have hhl := hiN_le l bs y2 y1 (b1, b2) (ps.take j)
        have hll := loN_le l bs y2 y1 (b1, b2) (ps.take j)
        rw [List.length_take] at hhl hll
        unfold hiB at Hhn
        unfold loB at Hln
        generalize ps[j] = p at *
        obtain ⟨x1, x2, x3, au, tt, a1, n1, a2, n2⟩ := p
        obtain ⟨hr1, hr2, hr3⟩ := hrd
        simp only at Hhn Hln
        generalize afF l y2 ⟨x1, x2, x3, au, tt, a1, n1, a2, n2⟩ = f at *
        obtain ⟨f1, f2⟩ := f
        simp only at d0 d1 d2 d3 d4 hr1 hr2 hr3 HAj
        have hlv := HLv.out (x1, y1)
        have HLk := Lib.hid (HLo.out x1 y1)
        generalize lvO bs (x1, y1) = lv at *
        obtain ⟨v1, v2⟩ := hlv
        obtain ⟨u1, u2, u3, u4⟩ := hfo
        simp only at u1 u2 u3 u4
        have HCm := Lib.hid (fun W => cmpF_any (f1, f2) (b1, b2) W ⟨u1, by show f1 ≤ _; omega⟩ ⟨by show 0 ≤ f2; omega, by show f2 ≤ _; omega⟩ ⟨e3, e4⟩ ⟨by show 0 ≤ b2; omega, e6⟩)
        have Hcm := Lib.hid (cmpZ_lessF (f1, f2) (b1, b2))
        simp only at HCm Hcm
        generalize cmpZ (f1 * b2) (b1 * f2) = cz at *
        generalize lessF (f1, f2) (b1, b2) = le at *
        generalize hiN l bs y2 y1 (b1, b2) (ps.take j) = hn at *
        generalize loN l bs y2 y1 (b1, b2) (ps.take j) = ln at *
        replace Hhn := Lib.hid Hhn
        replace Hln := Lib.hid Hln
        have hbA : Below wq.heap.size wq (wr.alloc (.cells #[.string x1, .string x2, .string x3, .slice a1 au.length n1, .slice a2 tt.length n2] 86)) := by (repeat' (first | exact Below.refl _ _ | assumption | refine Below.setCell ?_ ?_ _ | refine below_drewN ?_ _ | refine Below.drew ?_ | refine Below.alloc ?_ ?_ _ | (with_reducible refine Below.trans ?_ (Below.mono hb ?_)) | (with_reducible refine Below.trans ?_ (Below.mono hb0 ?_)) | (with_reducible refine Below.trans ?_ (Below.mono hb1 ?_)) | (with_reducible refine Below.trans ?_ (Below.mono hb2 ?_)) | (with_reducible refine Below.trans ?_ (Below.mono hb3 ?_)) | (with_reducible refine Below.trans ?_ (Below.mono hb4 ?_)) | (with_reducible refine Below.trans ?_ (Below.mono hb5 ?_)) | (with_reducible refine Below.trans ?_ (Below.mono hb6 ?_)) | (with_reducible refine Below.trans ?_ (Below.mono hb7 ?_)) | (with_reducible refine Below.trans ?_ (Below.mono hb8 ?_)) | (with_reducible refine Below.trans ?_ (Below.mono hb9 ?_)) | (with_reducible refine Below.trans ?_ (Below.mono hb10 ?_)) | (with_reducible refine Below.trans ?_ (Below.mono hb11 ?_)) | (with_reducible refine Below.trans ?_ (Below.mono hb12 ?_)) | (with_reducible refine Below.trans ?_ (Below.mono hb13 ?_)) | (with_reducible refine Below.trans ?_ (Below.mono hb14 ?_)) | (with_reducible refine Below.trans ?_ (Below.mono hb15 ?_)) | omega | (simp; done) | (simp; omega)))
        have hOA := hOb.alloc (.cells #[.string x1, .string x2, .string x3, .slice a1 au.length n1, .slice a2 tt.length n2] 86)
        have hBo := Box.new wr 86 #[.string x1, .string x2, .string x3, .slice a1 au.length n1, .slice a2 tt.length n2]
        have hrc1 := (hRd.below hbA).cell 1
        have hBo_l := hBo.lt; have hBo_0 := hBo.cell 0; have hBo_1 := hBo.cell 1; have hBo_2 := hBo.cell 2; have hBo_3 := hBo.cell 3; have hBo_4 := hBo.cell 4; simp at hBo_0 hBo_1 hBo_2 hBo_3 hBo_4
        clear hOb
        go_wp2_with fail
        refine (HAj.out _ (hlp.below hbA) (hskp.below hbA) (hr2.below hbA)).mono ?_
        rintro e w3 ⟨rfl, hb3⟩
        have hb3A := below_next hbA hb3
        have hz3 := hb3A.size
        have hO3 := (hOA.below hb3).alloc (.cells #[.int .i64 f1, .int .i64 f2] 37)
        have hF3 := Box.new w3 37 #[.int .i64 f1, .int .i64 f2]
        have hP3 := ((hBo.below hb3).alloc (.cells #[.int .i64 f1, .int .i64 f2] 37)).cell 0
        have hb4A : Below wq.heap.size wq (w3.alloc (.cells #[.int .i64 f1, .int .i64 f2] 37)) := by (repeat' (first | exact Below.refl _ _ | assumption | refine Below.setCell ?_ ?_ _ | refine below_drewN ?_ _ | refine Below.drew ?_ | refine Below.alloc ?_ ?_ _ | (with_reducible refine Below.trans ?_ (Below.mono hb ?_)) | (with_reducible refine Below.trans ?_ (Below.mono hb0 ?_)) | (with_reducible refine Below.trans ?_ (Below.mono hb1 ?_)) | (with_reducible refine Below.trans ?_ (Below.mono hb2 ?_)) | (with_reducible refine Below.trans ?_ (Below.mono hb3 ?_)) | (with_reducible refine Below.trans ?_ (Below.mono hb4 ?_)) | (with_reducible refine Below.trans ?_ (Below.mono hb5 ?_)) | (with_reducible refine Below.trans ?_ (Below.mono hb6 ?_)) | (with_reducible refine Below.trans ?_ (Below.mono hb7 ?_)) | (with_reducible refine Below.trans ?_ (Below.mono hb8 ?_)) | (with_reducible refine Below.trans ?_ (Below.mono hb9 ?_)) | (with_reducible refine Below.trans ?_ (Below.mono hb10 ?_)) | (with_reducible refine Below.trans ?_ (Below.mono hb11 ?_)) | (with_reducible refine Below.trans ?_ (Below.mono hb12 ?_)) | (with_reducible refine Below.trans ?_ (Below.mono hb13 ?_)) | (with_reducible refine Below.trans ?_ (Below.mono hb14 ?_)) | (with_reducible refine Below.trans ?_ (Below.mono hb15 ?_)) | omega | (simp; done) | (simp; omega)))
        have hS4 := hSb.below hb4A
        have hRc := (hRd.below hb4A).cell 0
        clear hBo hBo_l hBo_0 hBo_1 hBo_2 hBo_3 hBo_4 hOA hrc1 hb3 hbA
        go_upto_region 18 with (fail)
        refine wp_region_held_drew (S := (fun wy => wy.cell? ⟨w3.heap.size, 0, none⟩ = some (.int .i64 f1) ∧ wy.cell? ⟨w3.heap.size, 1, none⟩ = some (.int .i64 f2) ∧ wy.cell? ⟨wo.heap.size + 1, 0, none⟩ = some (.int .i64 m1) ∧ wy.cell? ⟨wo.heap.size + 1, 1, none⟩ = some (.int .i64 m2))) (by kernel_rfl) ?hS (fun hHeld => ?_)
        case hS => exact ⟨hF3.cell 0, hF3.cell 1, hS4.cell 0, hS4.cell 1⟩
        refine rtake (i := 0) (d := (some 63)) (v := ?_) rfl (by kernel_rfl) (by kernel_rfl) (by kernel_rfl) (by kernel_rfl) (fun _ _ _ h => h) (by kernel_rfl) (by assumption) ?_ ?_
        rotate_left 1
        · (intro wI hSI; (try dsimp only at hSI); go_simp; (try with_reducible rfl))
        simp only [Act.put, List.setIfInBounds_toArray, List.set_cons_zero, List.set_cons_succ]
        refine rtake (i := 1) (d := (some 64)) (v := ?_) rfl (by kernel_rfl) (by kernel_rfl) (by kernel_rfl) (by kernel_rfl) (fun _ _ _ h => h) (by kernel_rfl) (by assumption) ?_ ?_
        rotate_left 1
        · (intro wI hSI; (try dsimp only at hSI); go_simp; (try with_reducible rfl))
        simp only [Act.put, List.setIfInBounds_toArray, List.set_cons_zero, List.set_cons_succ]
        refine rtake (i := 2) (d := (some 65)) (v := ?_) rfl (by kernel_rfl) (by kernel_rfl) (by kernel_rfl) (by kernel_rfl) (fun _ _ _ h => h) (by kernel_rfl) (by assumption) ?_ ?_
        rotate_left 1
        · (intro wI hSI; (try dsimp only at hSI); go_simp; (try with_reducible rfl))
        simp only [Act.put, List.setIfInBounds_toArray, List.set_cons_zero, List.set_cons_succ]
        refine rtake (i := 3) (d := (some 66)) (v := ?_) rfl (by kernel_rfl) (by kernel_rfl) (by kernel_rfl) (by kernel_rfl) (fun _ _ _ h => h) (by kernel_rfl) (by assumption) ?_ ?_
        rotate_left 1
        · (intro wI hSI; (try dsimp only at hSI); go_simp; (try with_reducible rfl))
        simp only [Act.put, List.setIfInBounds_toArray, List.set_cons_zero, List.set_cons_succ]
        refine rtake (i := 4) (d := (some 67)) (v := ?_) rfl (by kernel_rfl) (by kernel_rfl) (by kernel_rfl) (by kernel_rfl) (fun _ _ _ h => h) (by kernel_rfl) (by assumption) ?_ ?_
        rotate_left 1
        · (intro wI hSI; (try dsimp only at hSI); go_simp; (try with_reducible rfl))
        simp only [Act.put, List.setIfInBounds_toArray, List.set_cons_zero, List.set_cons_succ]
        refine rtake (i := 5) (d := (some 68)) (v := ?_) rfl (by kernel_rfl) (by kernel_rfl) (by kernel_rfl) (by kernel_rfl) (fun _ _ _ h => h) (by kernel_rfl) (by assumption) ?_ ?_
        rotate_left 1
        · (intro wI hSI; (try dsimp only at hSI); go_simp; (try with_reducible rfl))
        simp only [Act.put, List.setIfInBounds_toArray, List.set_cons_zero, List.set_cons_succ]
        refine rtake (i := 6) (d := (some 69)) (v := ?_) rfl (by kernel_rfl) (by kernel_rfl) (by kernel_rfl) (by kernel_rfl) (fun _ _ _ h => h) (by kernel_rfl) (by assumption) ?_ ?_
        rotate_left 1
        · (intro wI hSI; (try dsimp only at hSI); go_simp; (try with_reducible rfl))
        simp only [Act.put, List.setIfInBounds_toArray, List.set_cons_zero, List.set_cons_succ]
        refine rtake (i := 7) (d := (some 70)) (v := ?_) rfl (by kernel_rfl) (by kernel_rfl) (by kernel_rfl) (by kernel_rfl) (fun _ _ _ h => h) (by kernel_rfl) (by assumption) ?_ ?_
        rotate_left 1
        · (intro wI hSI; (try dsimp only at hSI); go_simp; (try with_reducible rfl))
        simp only [Act.put, List.setIfInBounds_toArray, List.set_cons_zero, List.set_cons_succ]
        refine rcall (i := 8) (d := (some 71)) (by kernel_rfl) rfl (by kernel_rfl) (fun K hK => ?_)
        go_simp
        go_at_call 96; refine (HPt.out _).mono ?_; rintro e w4 ⟨rfl, hb4⟩
        refine hK.out _ _ ?hS (fun hHeld => ?_)
        case hS => exact ⟨cell_later hb4 hHeld.1, cell_later hb4 hHeld.2.1, cell_later hb4 hHeld.2.2.1, cell_later hb4 hHeld.2.2.2⟩
        clear hK K
        simp only [Act.put, List.setIfInBounds_toArray, List.set_cons_zero, List.set_cons_succ]
        refine rcall (i := 9) (d := (some 72)) (by kernel_rfl) rfl (by kernel_rfl) (fun K hK => ?_)
        go_simp
        go_at_call 95; refine (HCm.out _).mono ?_; rintro e w5 ⟨rfl, hb5⟩
        refine hK.out _ _ ?hS (fun hHeld => ?_)
        case hS => exact ⟨cell_later hb5 hHeld.1, cell_later hb5 hHeld.2.1, cell_later hb5 hHeld.2.2.1, cell_later hb5 hHeld.2.2.2⟩
        clear hK K
        simp only [Act.put, List.setIfInBounds_toArray, List.set_cons_zero, List.set_cons_succ]
        refine rtake (i := 10) (d := (some 73)) (v := ?_) rfl (by kernel_rfl) (by kernel_rfl) (by kernel_rfl) (by kernel_rfl) (fun _ _ _ h => h) (by kernel_rfl) (by assumption) ?_ ?_
        rotate_left 1
        · (intro wI hSI; (try dsimp only at hSI); go_simp; (try with_reducible rfl))
        simp only [Act.put, List.setIfInBounds_toArray, List.set_cons_zero, List.set_cons_succ]
        refine rtake (i := 11) (d := (some 22)) (v := ?_) rfl (by kernel_rfl) (by kernel_rfl) (by kernel_rfl) (by kernel_rfl) (fun _ _ _ h => h) (by kernel_rfl) (by assumption) ?_ ?_
        rotate_left 1
        · (intro wI hSI; (try dsimp only at hSI); go_simp; (try with_reducible rfl))
        simp only [Act.put, List.setIfInBounds_toArray, List.set_cons_zero, List.set_cons_succ]
        refine wpAnyH_done (by kernel_rfl) ?_ _
        have hb45 := below_next hb4 hb5
        have hP5 := cell_later hb45 hP3
        have hR5 := cell_later hb45 hRc
        have hb5A := below_next hb4A.drew hb45
        have hO5 := hO3.drew.below hb45
        have hB5 := (hBp.below hb4A).drew.below hb45
        clear hHeld hP3 hRc hb4 hb5 hb45 hS4 hF3 hO3 hb4A
        go_wp2_with fail
        refine (HLk.out _ hB5).mono ?_
        rintro e w6 ⟨rfl, hb6⟩
        have hb6A := below_next hb5A hb6
        have hO6 := hO5.below hb6
        have hz6 := hb6A.size
        clear hP5 hR5 hO5 hB5 hb6 hb5A
        have Hcm2 := Lib.hid Hcm.out
        clear Hcm
        obtain rfl | rfl | rfl | rfl | rfl : lv = 0 ∨ lv = 1 ∨ lv = 2 ∨ lv = 3 ∨ lv = 4 := by omega
        · have Hh2 : Hid (hiN l bs y2 y1 (b1, b2) (ps.take (j + 1)) = hn) := by show _ = _; rw [Hhn.out]; simp
          have Hl2 : Hid (loN l bs y2 y1 (b1, b2) (ps.take (j + 1)) = ln) := by show _ = _; rw [Hln.out]; simp
          clear Hhn Hln
          go_wp2_with fail
          rw [← Hq.out]
          go_roundg (ps.length - (j + 1))
          case measure => have := hgj.out; omega
          case rel => exact ⟨j + 1, by go_num, by omega, rfl, by rw [Hh2.out, Hl2.out]; exact hO6, hb6A⟩
        · cases le
          · have hd : decide (cz < 0) = false := Hcm2.out
            have Hh2 : Hid (hiN l bs y2 y1 (b1, b2) (ps.take (j + 1)) = hn + if false = true then 1 else 0) := by show _ = _; rw [Hhn.out]; simp
            have Hl2 : Hid (loN l bs y2 y1 (b1, b2) (ps.take (j + 1)) = ln + if false = true then 0 else 1) := by show _ = _; rw [Hln.out]; simp
            clear Hhn Hln
            have hw : IntKind.i64.wrap ((ln : Int) + 1) = (ln : Int) + 1 := IntWalk.i64_in _ (by omega)
            have hfr := hO6.frozen 2
            have hO7 := hO6.set 2 (.int .i64 ((ln : Int) + 1))
            have hb7 : Below wq.heap.size wq (w6.setCell ⟨wq.heap.size, 2, none⟩ (.int .i64 ((ln : Int) + 1))) := by (repeat' (first | exact Below.refl _ _ | assumption | refine Below.setCell ?_ ?_ _ | refine below_drewN ?_ _ | refine Below.drew ?_ | refine Below.alloc ?_ ?_ _ | (with_reducible refine Below.trans ?_ (Below.mono hb ?_)) | (with_reducible refine Below.trans ?_ (Below.mono hb0 ?_)) | (with_reducible refine Below.trans ?_ (Below.mono hb1 ?_)) | (with_reducible refine Below.trans ?_ (Below.mono hb2 ?_)) | (with_reducible refine Below.trans ?_ (Below.mono hb3 ?_)) | (with_reducible refine Below.trans ?_ (Below.mono hb4 ?_)) | (with_reducible refine Below.trans ?_ (Below.mono hb5 ?_)) | (with_reducible refine Below.trans ?_ (Below.mono hb6 ?_)) | (with_reducible refine Below.trans ?_ (Below.mono hb7 ?_)) | (with_reducible refine Below.trans ?_ (Below.mono hb8 ?_)) | (with_reducible refine Below.trans ?_ (Below.mono hb9 ?_)) | (with_reducible refine Below.trans ?_ (Below.mono hb10 ?_)) | (with_reducible refine Below.trans ?_ (Below.mono hb11 ?_)) | (with_reducible refine Below.trans ?_ (Below.mono hb12 ?_)) | (with_reducible refine Below.trans ?_ (Below.mono hb13 ?_)) | (with_reducible refine Below.trans ?_ (Below.mono hb14 ?_)) | (with_reducible refine Below.trans ?_ (Below.mono hb15 ?_)) | omega | (simp; done) | (simp; omega)))
            have hO6_l := hO6.lt; have hO6_0 := hO6.cell 0; have hO6_1 := hO6.cell 1; have hO6_2 := hO6.cell 2; simp at hO6_0 hO6_1 hO6_2
            clear hO6
            go_wp2_with fail
            rw [← Hq.out]
            go_roundg (ps.length - (j + 1))
            case measure => have := hgj.out; omega
            case rel => exact ⟨j + 1, by go_num, by omega, rfl, by rw [Hh2.out, Hl2.out]; simpa using hO7, hb7⟩
          · have hd : decide (cz < 0) = true := Hcm2.out
            have Hh2 : Hid (hiN l bs y2 y1 (b1, b2) (ps.take (j + 1)) = hn) := by show _ = _; rw [Hhn.out]; simp
            have Hl2 : Hid (loN l bs y2 y1 (b1, b2) (ps.take (j + 1)) = ln) := by show _ = _; rw [Hln.out]; simp
            clear Hhn Hln
            go_wp2_with fail
            rw [← Hq.out]
            go_roundg (ps.length - (j + 1))
            case measure => have := hgj.out; omega
            case rel => exact ⟨j + 1, by go_num, by omega, rfl, by rw [Hh2.out, Hl2.out]; exact hO6, hb6A⟩
        · have Hh2 : Hid (hiN l bs y2 y1 (b1, b2) (ps.take (j + 1)) = hn) := by show _ = _; rw [Hhn.out]; simp
          have Hl2 : Hid (loN l bs y2 y1 (b1, b2) (ps.take (j + 1)) = ln) := by show _ = _; rw [Hln.out]; simp
          clear Hhn Hln
          go_wp2_with fail
          rw [← Hq.out]
          go_roundg (ps.length - (j + 1))
          case measure => have := hgj.out; omega
          case rel => exact ⟨j + 1, by go_num, by omega, rfl, by rw [Hh2.out, Hl2.out]; exact hO6, hb6A⟩
        · cases le
          · have hd : decide (cz < 0) = false := Hcm2.out
            have Hh2 : Hid (hiN l bs y2 y1 (b1, b2) (ps.take (j + 1)) = hn) := by show _ = _; rw [Hhn.out]; simp
            have Hl2 : Hid (loN l bs y2 y1 (b1, b2) (ps.take (j + 1)) = ln) := by show _ = _; rw [Hln.out]; simp
            clear Hhn Hln
            go_wp2_with fail
            rw [← Hq.out]
            go_roundg (ps.length - (j + 1))
            case measure => have := hgj.out; omega
            case rel => exact ⟨j + 1, by go_num, by omega, rfl, by rw [Hh2.out, Hl2.out]; exact hO6, hb6A⟩
          · have hd : decide (cz < 0) = true := Hcm2.out
            have Hh2 : Hid (hiN l bs y2 y1 (b1, b2) (ps.take (j + 1)) = hn + if true = true then 1 else 0) := by show _ = _; rw [Hhn.out]; simp
            have Hl2 : Hid (loN l bs y2 y1 (b1, b2) (ps.take (j + 1)) = ln + if true = true then 0 else 1) := by show _ = _; rw [Hln.out]; simp
            clear Hhn Hln
            have hw : IntKind.i64.wrap ((hn : Int) + 1) = (hn : Int) + 1 := IntWalk.i64_in _ (by omega)
            have hfr := hO6.frozen 1
            have hO7 := hO6.set 1 (.int .i64 ((hn : Int) + 1))
            have hb7 : Below wq.heap.size wq (w6.setCell ⟨wq.heap.size, 1, none⟩ (.int .i64 ((hn : Int) + 1))) := by (repeat' (first | exact Below.refl _ _ | assumption | refine Below.setCell ?_ ?_ _ | refine below_drewN ?_ _ | refine Below.drew ?_ | refine Below.alloc ?_ ?_ _ | (with_reducible refine Below.trans ?_ (Below.mono hb ?_)) | (with_reducible refine Below.trans ?_ (Below.mono hb0 ?_)) | (with_reducible refine Below.trans ?_ (Below.mono hb1 ?_)) | (with_reducible refine Below.trans ?_ (Below.mono hb2 ?_)) | (with_reducible refine Below.trans ?_ (Below.mono hb3 ?_)) | (with_reducible refine Below.trans ?_ (Below.mono hb4 ?_)) | (with_reducible refine Below.trans ?_ (Below.mono hb5 ?_)) | (with_reducible refine Below.trans ?_ (Below.mono hb6 ?_)) | (with_reducible refine Below.trans ?_ (Below.mono hb7 ?_)) | (with_reducible refine Below.trans ?_ (Below.mono hb8 ?_)) | (with_reducible refine Below.trans ?_ (Below.mono hb9 ?_)) | (with_reducible refine Below.trans ?_ (Below.mono hb10 ?_)) | (with_reducible refine Below.trans ?_ (Below.mono hb11 ?_)) | (with_reducible refine Below.trans ?_ (Below.mono hb12 ?_)) | (with_reducible refine Below.trans ?_ (Below.mono hb13 ?_)) | (with_reducible refine Below.trans ?_ (Below.mono hb14 ?_)) | (with_reducible refine Below.trans ?_ (Below.mono hb15 ?_)) | omega | (simp; done) | (simp; omega)))
            have hO6_l := hO6.lt; have hO6_0 := hO6.cell 0; have hO6_1 := hO6.cell 1; have hO6_2 := hO6.cell 2; simp at hO6_0 hO6_1 hO6_2
            clear hO6
            go_wp2_with fail
            rw [← Hq.out]
            go_roundg (ps.length - (j + 1))
            case measure => have := hgj.out; omega
            case rel => exact ⟨j + 1, by go_num, by omega, rfl, by rw [Hh2.out, Hl2.out]; simpa using hO7, hb7⟩
        · cases le
          · have hd : decide (cz < 0) = false := Hcm2.out
            have Hh2 : Hid (hiN l bs y2 y1 (b1, b2) (ps.take (j + 1)) = hn) := by show _ = _; rw [Hhn.out]; simp
            have Hl2 : Hid (loN l bs y2 y1 (b1, b2) (ps.take (j + 1)) = ln) := by show _ = _; rw [Hln.out]; simp
            clear Hhn Hln
            go_wp2_with fail
            rw [← Hq.out]
            go_roundg (ps.length - (j + 1))
            case measure => have := hgj.out; omega
            case rel => exact ⟨j + 1, by go_num, by omega, rfl, by rw [Hh2.out, Hl2.out]; exact hO6, hb6A⟩
          · have hd : decide (cz < 0) = true := Hcm2.out
            have Hh2 : Hid (hiN l bs y2 y1 (b1, b2) (ps.take (j + 1)) = hn + if true = true then 1 else 0) := by show _ = _; rw [Hhn.out]; simp
            have Hl2 : Hid (loN l bs y2 y1 (b1, b2) (ps.take (j + 1)) = ln + if true = true then 0 else 1) := by show _ = _; rw [Hln.out]; simp
            clear Hhn Hln
            have hw : IntKind.i64.wrap ((hn : Int) + 1) = (hn : Int) + 1 := IntWalk.i64_in _ (by omega)
            have hfr := hO6.frozen 1
            have hO7 := hO6.set 1 (.int .i64 ((hn : Int) + 1))
            have hb7 : Below wq.heap.size wq (w6.setCell ⟨wq.heap.size, 1, none⟩ (.int .i64 ((hn : Int) + 1))) := by (repeat' (first | exact Below.refl _ _ | assumption | refine Below.setCell ?_ ?_ _ | refine below_drewN ?_ _ | refine Below.drew ?_ | refine Below.alloc ?_ ?_ _ | (with_reducible refine Below.trans ?_ (Below.mono hb ?_)) | (with_reducible refine Below.trans ?_ (Below.mono hb0 ?_)) | (with_reducible refine Below.trans ?_ (Below.mono hb1 ?_)) | (with_reducible refine Below.trans ?_ (Below.mono hb2 ?_)) | (with_reducible refine Below.trans ?_ (Below.mono hb3 ?_)) | (with_reducible refine Below.trans ?_ (Below.mono hb4 ?_)) | (with_reducible refine Below.trans ?_ (Below.mono hb5 ?_)) | (with_reducible refine Below.trans ?_ (Below.mono hb6 ?_)) | (with_reducible refine Below.trans ?_ (Below.mono hb7 ?_)) | (with_reducible refine Below.trans ?_ (Below.mono hb8 ?_)) | (with_reducible refine Below.trans ?_ (Below.mono hb9 ?_)) | (with_reducible refine Below.trans ?_ (Below.mono hb10 ?_)) | (with_reducible refine Below.trans ?_ (Below.mono hb11 ?_)) | (with_reducible refine Below.trans ?_ (Below.mono hb12 ?_)) | (with_reducible refine Below.trans ?_ (Below.mono hb13 ?_)) | (with_reducible refine Below.trans ?_ (Below.mono hb14 ?_)) | (with_reducible refine Below.trans ?_ (Below.mono hb15 ?_)) | omega | (simp; done) | (simp; omega)))
            have hO6_l := hO6.lt; have hO6_0 := hO6.cell 0; have hO6_1 := hO6.cell 1; have hO6_2 := hO6.cell 2; simp at hO6_0 hO6_1 hO6_2
            clear hO6
            go_wp2_with fail
            rw [← Hq.out]
            go_roundg (ps.length - (j + 1))
            case measure => have := hgj.out; omega
            case rel => exact ⟨j + 1, by go_num, by omega, rfl, by rw [Hh2.out, Hl2.out]; simpa using hO7, hb7⟩
      · obtain rfl : j = ps.length := by omega
        rw [List.take_length] at hOb
        have hhl := hiN_le l bs y2 y1 (b1, b2) ps
        have hll := loN_le l bs y2 y1 (b1, b2) ps
        have hnn : (0 : Int) ≤ ((hiN l bs y2 y1 (b1, b2) ps : Nat) : Int) ∧ ((hiN l bs y2 y1 (b1, b2) ps : Nat) : Int) ≤ 1000 ∧ (0 : Int) ≤ ((loN l bs y2 y1 (b1, b2) ps : Nat) : Int) ∧ ((loN l bs y2 y1 (b1, b2) ps : Nat) : Int) ≤ 1000 := by omega
        generalize ((hiN l bs y2 y1 (b1, b2) ps : Nat) : Int) = h at *
        generalize ((loN l bs y2 y1 (b1, b2) ps : Nat) : Int) = o at *
        obtain ⟨n1, n2, n3, n4⟩ := hnn
        have hbz := below_next hbp hbx
        have hownz := hownp.below hbx
        clear hhl hll hgj hj hjl
        have hw2 : IntKind.i64.wrap (2 * o) = 2 * o := IntWalk.i64_in _ (by omega)
        have hzz := hbz.size
        have hOb_l := hOb.lt; have hOb_0 := hOb.cell 0; have hOb_1 := hOb.cell 1; have hOb_2 := hOb.cell 2; simp at hOb_0 hOb_1 hOb_2
        by_cases hc1 : 0 < h
        · have HSt2 := Lib.hid (HSt.out.trans (congrArg (acc ++ ·) (if_pos (.inl hc1))))
          have hd1 : decide (0 < h) = true := decide_eq_true hc1
          clear hc1
          have hown1 := hownz.alloc (.cells #[.string y1, .int .i64 h, .int .i64 o] 76)
          have hbo := Box.new wr 76 #[.string y1, .int .i64 h, .int .i64 o] 
          have hba : Below w.heap.size w ((wr).alloc (.cells #[.string y1, .int .i64 h, .int .i64 o] 76)) := hbz.alloc (by have := hbz.size; omega) _
          have Hol := Lib.hid hownz.lt
          clear hOb HSt hownz
          go_wp2_with (at_builtin; refine wpList_append_lie (α := Trio) rfl _ _ 65 rfl 76 32 (.agg #[.string ⟨#[]⟩, .int .i64 0, .int .i64 0]) Tryz.underlying65 Tryz.infoOdd rfl _ acc rfl hown1 (y1, h, o) _ rfl hbo (by omega) (by omega) (by simp; omega) ?_; intro g9 cap9 w9 hown9 hg9 hat9)
          have hb9 := hba.grown hg9 (by simp; omega) (fun j hj => (Hol.out j hj).1)
          rw [← HSt2.out] at hown9
          rw [← Ha.out]
          (try go_wp2_with fail)
          go_roundg (rs.length - (k + 1))
          case measure => have := hgk.out; omega
          case rel => exact ⟨k + 1, by go_num, by omega, rfl, by rw [HA2.out]; exact hown9, hb9⟩
        · have hd1 : decide (0 < h) = false := decide_eq_false hc1
          by_cases hc2 : (ps.length : Int) < 2 * o
          · have HSt2 := Lib.hid (HSt.out.trans (congrArg (acc ++ ·) (if_pos (.inr hc2))))
            have hd2 : decide ((ps.length : Int) < 2 * o) = true := decide_eq_true hc2
            clear hc1 hc2
            have hown1 := hownz.alloc (.cells #[.string y1, .int .i64 h, .int .i64 o] 76)
            have hbo := Box.new wr 76 #[.string y1, .int .i64 h, .int .i64 o] 
            have hba : Below w.heap.size w ((wr).alloc (.cells #[.string y1, .int .i64 h, .int .i64 o] 76)) := hbz.alloc (by have := hbz.size; omega) _
            have Hol := Lib.hid hownz.lt
            clear hOb HSt hownz
            go_wp2_with (at_builtin; refine wpList_append_lie (α := Trio) rfl _ _ 65 rfl 76 32 (.agg #[.string ⟨#[]⟩, .int .i64 0, .int .i64 0]) Tryz.underlying65 Tryz.infoOdd rfl _ acc rfl hown1 (y1, h, o) _ rfl hbo (by omega) (by omega) (by simp; omega) ?_; intro g9 cap9 w9 hown9 hg9 hat9)
            have hb9 := hba.grown hg9 (by simp; omega) (fun j hj => (Hol.out j hj).1)
            rw [← HSt2.out] at hown9
            rw [← Ha.out]
            (try go_wp2_with fail)
            go_roundg (rs.length - (k + 1))
            case measure => have := hgk.out; omega
            case rel => exact ⟨k + 1, by go_num, by omega, rfl, by rw [HA2.out]; exact hown9, hb9⟩
          · have HSt2 := Lib.hid (HSt.out.trans (congrArg (acc ++ ·) (if_neg (fun e => e.elim hc1 hc2))))
            have hd2 : decide ((ps.length : Int) < 2 * o) = false := decide_eq_false hc2
            clear hc1 hc2 HSt
            go_wp2_with fail
            rw [← Ha.out]
            go_roundg (rs.length - (k + 1))
            case measure => have := hgk.out; omega
            case rel => exact ⟨k + 1, by go_num, by omega, rfl, by rw [HA2.out, HSt2.out, List.append_nil]; exact hownz, hbz⟩
  · obtain rfl : k = rs.length := by omega
    rw [Hfin.out] at hown
    go_wp2_with fail
    go_ret
    exact ⟨_, rfl, hown, hb⟩
end Go.Proofs.YtpgofjjcmldhpaaGreatDoor

/-! Bids that are odd: the program. -/
namespace Go.Proofs.YtpgofjjcmldhpaaGreatDoor
open Go.RowKit
set_option linter.unusedVariables false
set_option linter.unusedSimpArgs false

set_option maxRecDepth 100000 in
set_option maxHeartbeats 16000000 in
theorem fieldOdd_any (l : List Topic) (xb : Nat) (ps : List Paper) (pa : Option Addr) (pc : Nat) (rs : List Reader) (ra : Option Addr) (rc : Nat) (bs : List Mark) (r : Reader) (percent : Int) (w : World) (hX : FieldAt w xb l ps pa pc rs ra rc bs) (hP : PapersAt w pa ps) (hs : SA w r.a r.skills)
    (hlen : l.length ≤ 1000) (hpl : ps.length ≤ 1000) (hsm : ∀ p ∈ ps, PSmall p) (hrs : RSmall r) (hok : SkillFit l r.skills) (hpw : ∀ p ∈ ps, p.topics.length ≤ 8 ∧ ∀ t ∈ p.topics, (ab l t).length ≤ 5) (hbf : bidsFault bs = 0) (hnd : (bs.map keyB2).Nodup) (h1 : 1 ≤ percent) (h2 : percent ≤ 100) :
    Calls Tryz.prog 90 #[.pointer (some ⟨xb, 0, none⟩), encReader r, .int .i64 percent] w (Gives (.agg #[.string r.key, .int .i64 (oddT l bs ps percent r).2.1, .int .i64 (oddT l bs ps percent r).2.2]) w) := by
  obtain ⟨fb, lb, hX, hF, hG⟩ := hX
  obtain ⟨y1, y2, y3, y4⟩ := r
  unfold encReader oddT
  have hky := hrs.1
  have hsl := hrs.2
  simp only at hs hok hky hsl ⊢
  have HA : Hid (∀ (p : Paper) (hp : p ∈ ps) W, W.cell? ⟨xb, 0, none⟩ = some (.map (some fb)) → FMap W fb l l.length → SA W y3 y2 → SA W p.a2 p.topics → Calls Tryz.prog 113 #[.pointer (some ⟨xb, 0, none⟩), encPaper p, .agg #[.string y1, .slice y3 y2.length y4]] W (Gives (.agg #[.int .i64 (afF l y2 p).1, .int .i64 (afF l y2 p).2]) W)) := fun p hp W h1 h2 h3 h4 => by
    have h := fieldAff_any l fb xb p ⟨y1, y2, y3, y4⟩ W h1 h2 h3 h4 hlen (by show y2.length ≤ _; omega) (hpw p hp).1 hok (hpw p hp).2
    rw [affV_eq] at h
    exact h
  have HQ : Hid (∀ (p : Paper) (hp : p ∈ ps), FrOk (afF l y2 p)) := fun p hp => afF_ok hlen hok (hpw p hp).2 (hpw p hp).1
  have HM : Hid (∀ k, FrOk (mostP l y2 (ps.take k))) := fun k => mostF_ok (by intro f hf; obtain ⟨p, hp, rfl⟩ := List.mem_map.1 hf; exact HQ.out p (List.mem_of_mem_take hp))
  have HLv := Lib.hid (fun k => lvO_bd hbf k)
  have HAl : Hid (∀ k (h : k < ps.length), (ps.take (k + 1)).map (afF l y2) = (ps.take k).map (afF l y2) ++ [afF l y2 ps[k]]) := fun k h => by rw [List.take_succ_eq_append_getElem h, List.map_append]; rfl
  have HLl : Hid (∀ k, ((ps.take k).map (afF l y2)).length ≤ 1000) := fun k => by rw [List.length_map, List.length_take]; omega
  have hb0 : Below w.heap.size w ((w.alloc (.cells #[.string y1, .slice y3 y2.length y4] 92)).alloc (.cells #[.string ⟨#[]⟩, .int .i64 0, .int .i64 0] 76)) := by (repeat' (first | exact Below.refl _ _ | assumption | refine Below.setCell ?_ ?_ _ | refine below_drewN ?_ _ | refine Below.drew ?_ | refine Below.alloc ?_ ?_ _ | (with_reducible refine Below.trans ?_ (Below.mono hb ?_)) | (with_reducible refine Below.trans ?_ (Below.mono hb0 ?_)) | (with_reducible refine Below.trans ?_ (Below.mono hb1 ?_)) | (with_reducible refine Below.trans ?_ (Below.mono hb2 ?_)) | (with_reducible refine Below.trans ?_ (Below.mono hb3 ?_)) | (with_reducible refine Below.trans ?_ (Below.mono hb4 ?_)) | (with_reducible refine Below.trans ?_ (Below.mono hb5 ?_)) | (with_reducible refine Below.trans ?_ (Below.mono hb6 ?_)) | (with_reducible refine Below.trans ?_ (Below.mono hb7 ?_)) | (with_reducible refine Below.trans ?_ (Below.mono hb8 ?_)) | (with_reducible refine Below.trans ?_ (Below.mono hb9 ?_)) | (with_reducible refine Below.trans ?_ (Below.mono hb10 ?_)) | (with_reducible refine Below.trans ?_ (Below.mono hb11 ?_)) | (with_reducible refine Below.trans ?_ (Below.mono hb12 ?_)) | (with_reducible refine Below.trans ?_ (Below.mono hb13 ?_)) | (with_reducible refine Below.trans ?_ (Below.mono hb14 ?_)) | (with_reducible refine Below.trans ?_ (Below.mono hb15 ?_)) | omega | (simp; done) | (simp; omega)))
  have hRd := (Box.new w 92 #[.string y1, .slice y3 y2.length y4]).alloc (.cells #[.string ⟨#[]⟩, .int .i64 0, .int .i64 0] 76)
  have hRs := Box.newAt (w.alloc (.cells #[.string y1, .slice y3 y2.length y4] 92)) (w.heap.size + 1) 76 #[.string ⟨#[]⟩, .int .i64 0, .int .i64 0] (by simp)
  have hz0 : ((w.alloc (.cells #[.string y1, .slice y3 y2.length y4] 92)).alloc (.cells #[.string ⟨#[]⟩, .int .i64 0, .int .i64 0] 76)).heap.size = w.heap.size + 1 + 1 := by simp
  have hOd := Box.newAt ((w.alloc (.cells #[.string y1, .slice y3 y2.length y4] 92)).alloc (.cells #[.string ⟨#[]⟩, .int .i64 0, .int .i64 0] 76)) (w.heap.size + 1 + 1) 76 #[.string y1, .int .i64 0, .int .i64 0] (by simp)
  have hP0 := hP.below hb0
  have hs0 := hs.below hb0
  have hX0 := hX.below hb0
  have hF0 := hF.below hb0
  have hG0 := hG.below hb0
  have hrk := (hRd.alloc (.cells #[.string y1, .int .i64 0, .int .i64 0] 76)).cell 0
  have hrk0 := hRd.cell 0
  have hrk1 := hRd.cell 1
  clear hX hF hG hP hs
  go_enter Tryz.func90, Tryz.ntmps90
  go_wp2_with fail
  clear hrk hrk0 hrk1
  generalize (w.alloc (.cells #[.string y1, .slice y3 y2.length y4] 92)).alloc (.cells #[.string ⟨#[]⟩, .int .i64 0, .int .i64 0] 76) = Wr at *
  have Hz0 := Lib.hid hz0
  have hb1 : Below Wr.heap.size Wr (Wr.alloc (.cells #[.string y1, .int .i64 0, .int .i64 0] 76)) := by (repeat' (first | exact Below.refl _ _ | assumption | refine Below.setCell ?_ ?_ _ | refine below_drewN ?_ _ | refine Below.drew ?_ | refine Below.alloc ?_ ?_ _ | (with_reducible refine Below.trans ?_ (Below.mono hb ?_)) | (with_reducible refine Below.trans ?_ (Below.mono hb0 ?_)) | (with_reducible refine Below.trans ?_ (Below.mono hb1 ?_)) | (with_reducible refine Below.trans ?_ (Below.mono hb2 ?_)) | (with_reducible refine Below.trans ?_ (Below.mono hb3 ?_)) | (with_reducible refine Below.trans ?_ (Below.mono hb4 ?_)) | (with_reducible refine Below.trans ?_ (Below.mono hb5 ?_)) | (with_reducible refine Below.trans ?_ (Below.mono hb6 ?_)) | (with_reducible refine Below.trans ?_ (Below.mono hb7 ?_)) | (with_reducible refine Below.trans ?_ (Below.mono hb8 ?_)) | (with_reducible refine Below.trans ?_ (Below.mono hb9 ?_)) | (with_reducible refine Below.trans ?_ (Below.mono hb10 ?_)) | (with_reducible refine Below.trans ?_ (Below.mono hb11 ?_)) | (with_reducible refine Below.trans ?_ (Below.mono hb12 ?_)) | (with_reducible refine Below.trans ?_ (Below.mono hb13 ?_)) | (with_reducible refine Below.trans ?_ (Below.mono hb14 ?_)) | (with_reducible refine Below.trans ?_ (Below.mono hb15 ?_)) | omega | (simp; done) | (simp; omega)))
  have hz1 : Wr.heap.size < (Wr.alloc (.cells #[.string y1, .int .i64 0, .int .i64 0] 76)).heap.size := by simp
  clear hz0
  refine (zero_any _).mono ?_
  rintro e W3 ⟨rfl, hb3⟩
  have hO3 := hOd.below hb3
  have hb03 := below_next hb1 hb3
  have hz3 : Wr.heap.size < W3.heap.size := by have := hb3.size; omega
  have hMs := Box.new W3 37 #[.int .i64 0, .int .i64 1]
  have hbM : Below W3.heap.size W3 (W3.alloc (.cells #[.int .i64 0, .int .i64 1] 37)) := by (repeat' (first | exact Below.refl _ _ | assumption | refine Below.setCell ?_ ?_ _ | refine below_drewN ?_ _ | refine Below.drew ?_ | refine Below.alloc ?_ ?_ _ | (with_reducible refine Below.trans ?_ (Below.mono hb ?_)) | (with_reducible refine Below.trans ?_ (Below.mono hb0 ?_)) | (with_reducible refine Below.trans ?_ (Below.mono hb1 ?_)) | (with_reducible refine Below.trans ?_ (Below.mono hb2 ?_)) | (with_reducible refine Below.trans ?_ (Below.mono hb3 ?_)) | (with_reducible refine Below.trans ?_ (Below.mono hb4 ?_)) | (with_reducible refine Below.trans ?_ (Below.mono hb5 ?_)) | (with_reducible refine Below.trans ?_ (Below.mono hb6 ?_)) | (with_reducible refine Below.trans ?_ (Below.mono hb7 ?_)) | (with_reducible refine Below.trans ?_ (Below.mono hb8 ?_)) | (with_reducible refine Below.trans ?_ (Below.mono hb9 ?_)) | (with_reducible refine Below.trans ?_ (Below.mono hb10 ?_)) | (with_reducible refine Below.trans ?_ (Below.mono hb11 ?_)) | (with_reducible refine Below.trans ?_ (Below.mono hb12 ?_)) | (with_reducible refine Below.trans ?_ (Below.mono hb13 ?_)) | (with_reducible refine Below.trans ?_ (Below.mono hb14 ?_)) | (with_reducible refine Below.trans ?_ (Below.mono hb15 ?_)) | omega | (simp; done) | (simp; omega)))
  have hxc := (hX0.below (below_next hb03 hbM)).cell 1
  clear hb1 hz1 hb3 hOd
  go_wp2_with fail
  clear hxc
  go_loopg [9, 26] ps.length (fun gj v i wx => ∃ j : Nat, i = .int .i64 j ∧ j ≤ ps.length ∧ Hid (gj = ps.length - j) ∧ Own (W3.heap.size + 1) 37 wx v ((ps.take j).map (afF l y2)) ∧ Box wx W3.heap.size 37 #[.int .i64 (mostP l y2 (ps.take j)).1, .int .i64 (mostP l y2 (ps.take j)).2] ∧ Below W3.heap.size W3 wx)
  case atStart => exact ⟨0, rfl, by omega, rfl, Own.nil _ _ _, hMs, hbM⟩
  clear hMs hbM
  obtain ⟨j, rfl, hj, hgj, hown, hMs, hbx⟩ := hrel
  have hzx := hbx.size
  have hzM := hMs.lt
  have hb0x := below_next hb03 hbx
  by_cases hjl : j < ps.length
  · obtain ⟨pb, poff, hqa, d0, d1, d2, d3, d4⟩ := (hP0.below hb0x).1.paper hjl
    have hrd := hP0.2 ps[j] (List.getElem_mem hjl)
    have HAj := Lib.hid (HA.out ps[j] (List.getElem_mem hjl))
    have hfo := HQ.out ps[j] (List.getElem_mem hjl)
    have HAlj := Lib.hid (HAl.out j hjl)
    have Hmn := Lib.hid (mostP_snoc l y2 hjl)
    have hmo := HM.out j
    have hal := HLl.out j
    have Hq := Lib.hid hqa
    rw [hqa]
    clear hqa
    generalize ps[j] = p at *
    obtain ⟨x1, x2, x3, au, tt, a1, n1, a2, n2⟩ := p
    obtain ⟨hr1, hr2, hr3⟩ := hrd
    generalize afF l y2 ⟨x1, x2, x3, au, tt, a1, n1, a2, n2⟩ = f at *
    obtain ⟨f1, f2⟩ := f
    unfold encPaper at HAj
    obtain ⟨mm, hm⟩ : ∃ m, mostP l y2 (ps.take (j + 1)) = m := ⟨_, rfl⟩
    rw [hm] at Hmn
    have HM2 := Lib.hid hm
    clear hm
    generalize mostP l y2 (ps.take j) = m at *
    obtain ⟨m1, m2⟩ := m
    simp only at d0 d1 d2 d3 d4 hr1 hr2 hr3 HAj hMs
    obtain ⟨acc2, ha2⟩ : ∃ a, (ps.take (j + 1)).map (afF l y2) = a := ⟨_, rfl⟩
    rw [ha2] at HAlj
    have HA2 := Lib.hid ha2
    clear ha2
    generalize (ps.take j).map (afF l y2) = acc at *
    obtain ⟨u1, u2, u3, u4⟩ := hfo
    obtain ⟨t1, t2, t3, t4⟩ := hmo
    simp only at u1 u2 u3 u4 t1 t2 t3 t4
    have HCm := Lib.hid (fun W => lessF_any (m1, m2) (f1, f2) W ⟨t1, by show m1 ≤ _; omega⟩ ⟨by show 0 ≤ m2; omega, by show m2 ≤ _; omega⟩ ⟨u1, by show f1 ≤ _; omega⟩ ⟨by show 0 ≤ f2; omega, by show f2 ≤ _; omega⟩)
    simp only at HCm
    have hbA : Below W3.heap.size W3 (wr.alloc (.cells #[.string x1, .string x2, .string x3, .slice a1 au.length n1, .slice a2 tt.length n2] 86)) := by (repeat' (first | exact Below.refl _ _ | assumption | refine Below.setCell ?_ ?_ _ | refine below_drewN ?_ _ | refine Below.drew ?_ | refine Below.alloc ?_ ?_ _ | (with_reducible refine Below.trans ?_ (Below.mono hb ?_)) | (with_reducible refine Below.trans ?_ (Below.mono hb0 ?_)) | (with_reducible refine Below.trans ?_ (Below.mono hb1 ?_)) | (with_reducible refine Below.trans ?_ (Below.mono hb2 ?_)) | (with_reducible refine Below.trans ?_ (Below.mono hb3 ?_)) | (with_reducible refine Below.trans ?_ (Below.mono hb4 ?_)) | (with_reducible refine Below.trans ?_ (Below.mono hb5 ?_)) | (with_reducible refine Below.trans ?_ (Below.mono hb6 ?_)) | (with_reducible refine Below.trans ?_ (Below.mono hb7 ?_)) | (with_reducible refine Below.trans ?_ (Below.mono hb8 ?_)) | (with_reducible refine Below.trans ?_ (Below.mono hb9 ?_)) | (with_reducible refine Below.trans ?_ (Below.mono hb10 ?_)) | (with_reducible refine Below.trans ?_ (Below.mono hb11 ?_)) | (with_reducible refine Below.trans ?_ (Below.mono hb12 ?_)) | (with_reducible refine Below.trans ?_ (Below.mono hb13 ?_)) | (with_reducible refine Below.trans ?_ (Below.mono hb14 ?_)) | (with_reducible refine Below.trans ?_ (Below.mono hb15 ?_)) | omega | (simp; done) | (simp; omega)))
    have hMA := hMs.alloc (.cells #[.string x1, .string x2, .string x3, .slice a1 au.length n1, .slice a2 tt.length n2] 86)
    have hownA := hown.alloc (.cells #[.string x1, .string x2, .string x3, .slice a1 au.length n1, .slice a2 tt.length n2] 86)
    have hBo := Box.new wr 86 #[.string x1, .string x2, .string x3, .slice a1 au.length n1, .slice a2 tt.length n2]
    have hb0A := below_next hb03 hbA
    have hRA := hRd.below hb0A
    have Hol := Lib.hid hown.lt
    have hBo_l := hBo.lt; have hBo_0 := hBo.cell 0; have hBo_1 := hBo.cell 1; have hBo_2 := hBo.cell 2; have hBo_3 := hBo.cell 3; have hBo_4 := hBo.cell 4; simp at hBo_0 hBo_1 hBo_2 hBo_3 hBo_4
    have hRA_l := hRA.lt; have hRA_0 := hRA.cell 0; have hRA_1 := hRA.cell 1; simp at hRA_0 hRA_1
    clear hMs hown
    go_wp2_with fail
    refine (HAj.out _ ((hX0.below hb0A).cell 0) (hF0.below hb0A) (hs0.below hb0A) (hr2.below hb0A)).mono ?_
    rintro e w4 ⟨rfl, hb4⟩
    have hb4A := below_next hbA hb4
    have hz4 := hb4A.size
    have hz4' : wr.heap.size < w4.heap.size := by have := hb4.size; simp at this; omega
    have hM5 := ((hMA.below hb4).alloc (.cells #[.int .i64 f1, .int .i64 f2] 37)).alloc (.cells #[.int .i64 f1, .int .i64 f2] 37)
    have hown5 := ((hownA.below hb4).alloc (.cells #[.int .i64 f1, .int .i64 f2] 37)).alloc (.cells #[.int .i64 f1, .int .i64 f2] 37)
    have hF4 := Box.new w4 37 #[.int .i64 f1, .int .i64 f2]
    have hF5 := hF4.alloc (.cells #[.int .i64 f1, .int .i64 f2] 37)
    have hbo := Box.newAt (w4.alloc (.cells #[.int .i64 f1, .int .i64 f2] 37)) (w4.heap.size + 1) 37 #[.int .i64 f1, .int .i64 f2] (by simp)
    have hb5A : Below W3.heap.size W3 ((w4.alloc (.cells #[.int .i64 f1, .int .i64 f2] 37)).alloc (.cells #[.int .i64 f1, .int .i64 f2] 37)) := by (repeat' (first | exact Below.refl _ _ | assumption | refine Below.setCell ?_ ?_ _ | refine below_drewN ?_ _ | refine Below.drew ?_ | refine Below.alloc ?_ ?_ _ | (with_reducible refine Below.trans ?_ (Below.mono hb ?_)) | (with_reducible refine Below.trans ?_ (Below.mono hb0 ?_)) | (with_reducible refine Below.trans ?_ (Below.mono hb1 ?_)) | (with_reducible refine Below.trans ?_ (Below.mono hb2 ?_)) | (with_reducible refine Below.trans ?_ (Below.mono hb3 ?_)) | (with_reducible refine Below.trans ?_ (Below.mono hb4 ?_)) | (with_reducible refine Below.trans ?_ (Below.mono hb5 ?_)) | (with_reducible refine Below.trans ?_ (Below.mono hb6 ?_)) | (with_reducible refine Below.trans ?_ (Below.mono hb7 ?_)) | (with_reducible refine Below.trans ?_ (Below.mono hb8 ?_)) | (with_reducible refine Below.trans ?_ (Below.mono hb9 ?_)) | (with_reducible refine Below.trans ?_ (Below.mono hb10 ?_)) | (with_reducible refine Below.trans ?_ (Below.mono hb11 ?_)) | (with_reducible refine Below.trans ?_ (Below.mono hb12 ?_)) | (with_reducible refine Below.trans ?_ (Below.mono hb13 ?_)) | (with_reducible refine Below.trans ?_ (Below.mono hb14 ?_)) | (with_reducible refine Below.trans ?_ (Below.mono hb15 ?_)) | omega | (simp; done) | (simp; omega)))
    clear hBo hBo_l hBo_0 hBo_1 hBo_2 hBo_3 hBo_4 hRA hRA_l hRA_0 hRA_1 hMA hownA hb4 hbA
    have hF4_l := hF4.lt; have hF4_0 := hF4.cell 0; have hF4_1 := hF4.cell 1; simp at hF4_0 hF4_1
    go_wp2_with (at_builtin; refine wpList_append_lie (α := Frc) rfl _ _ 175 rfl 37 16 (.agg #[.int .i64 0, .int .i64 0]) Tryz.underlying175 Tryz.infoFrc rfl _ acc rfl hown5 (f1, f2) _ rfl hbo (by omega) (by omega) (by simp; omega) ?_; intro g9 cap9 w9 hown9 hg9 hat9; have hK9 := (Kp.refl (fun b => u9.ownBlock = some b) _).grown hg9 (fun j hj => .inl hj); have hb9 := hb5A.grown hg9 (by simp; omega) (fun j hj => by have := (Hol.out j hj).1; omega); have hM9 := hM5.kp hK9 (fun e => by have := (Hol.out _ e).1; omega); have hF9 := hF5.kp hK9 (fun e => by have := (Hol.out _ e).2; omega); have hM9_0 := hM9.cell 0; have hM9_1 := hM9.cell 1; have hF9_0 := hF9.cell 0; have hF9_1 := hF9.cell 1)
    clear hM5 hown5 hF4 hF4_l hF4_0 hF4_1 hF5 hbo hb5A hK9 hg9 hat9
    refine (HCm.out _).mono ?_
    rintro e w5 ⟨rfl, hb5⟩
    have hb5A := below_next hb9 hb5
    have hM6 := hM9.below hb5
    have hF6 := hF9.below hb5
    have hown6 := hown9.below hb5
    rw [← HAlj.out] at hown6
    clear hM9 hM9_0 hM9_1 hF9 hF9_0 hF9_1 hb9 hb5 hown9
    cases hc : lessF (m1, m2) (f1, f2)
    · rw [hc] at Hmn
      have Hmn2 : Hid (mm = (m1, m2)) := Hmn
      clear hc Hmn
      go_wp2_with fail
      rw [← Hq.out]
      go_roundg (ps.length - (j + 1))
      case measure => have := hgj.out; omega
      case rel => exact ⟨j + 1, by go_num, by omega, rfl, by rw [HA2.out]; exact hown6, by rw [HM2.out, Hmn2.out]; exact hM6, hb5A⟩
    · rw [hc] at Hmn
      have Hmn2 : Hid (mm = (f1, f2)) := Hmn
      clear hc Hmn
      have hM7 := (hM6.set 0 (.int .i64 f1)).set 1 (.int .i64 f2)
      have hK7 := ((Kp.refl (fun b => b = W3.heap.size) w5).setCell (p := ⟨W3.heap.size, 0, none⟩) (.inl rfl) (.int .i64 f1)).setCell (p := ⟨W3.heap.size, 1, none⟩) (.inl rfl) (.int .i64 f2)
      have hown7 := hown6.kp hK7 (fun j hj e => by have := (hown6.lt j hj).1; omega)
      have hfr := hM6.frozen 0
      have hfr1 := hM6.frozen 1
      have hz5 := hb5A.size
      have hb7A : Below W3.heap.size W3 ((w5.setCell ⟨W3.heap.size, 0, none⟩ (.int .i64 f1)).setCell ⟨W3.heap.size, 1, none⟩ (.int .i64 f2)) := by (repeat' (first | exact Below.refl _ _ | assumption | refine Below.setCell ?_ ?_ _ | refine below_drewN ?_ _ | refine Below.drew ?_ | refine Below.alloc ?_ ?_ _ | (with_reducible refine Below.trans ?_ (Below.mono hb ?_)) | (with_reducible refine Below.trans ?_ (Below.mono hb0 ?_)) | (with_reducible refine Below.trans ?_ (Below.mono hb1 ?_)) | (with_reducible refine Below.trans ?_ (Below.mono hb2 ?_)) | (with_reducible refine Below.trans ?_ (Below.mono hb3 ?_)) | (with_reducible refine Below.trans ?_ (Below.mono hb4 ?_)) | (with_reducible refine Below.trans ?_ (Below.mono hb5 ?_)) | (with_reducible refine Below.trans ?_ (Below.mono hb6 ?_)) | (with_reducible refine Below.trans ?_ (Below.mono hb7 ?_)) | (with_reducible refine Below.trans ?_ (Below.mono hb8 ?_)) | (with_reducible refine Below.trans ?_ (Below.mono hb9 ?_)) | (with_reducible refine Below.trans ?_ (Below.mono hb10 ?_)) | (with_reducible refine Below.trans ?_ (Below.mono hb11 ?_)) | (with_reducible refine Below.trans ?_ (Below.mono hb12 ?_)) | (with_reducible refine Below.trans ?_ (Below.mono hb13 ?_)) | (with_reducible refine Below.trans ?_ (Below.mono hb14 ?_)) | (with_reducible refine Below.trans ?_ (Below.mono hb15 ?_)) | omega | (simp; done) | (simp; omega)))
      have hM6_l := hM6.lt; have hM6_0 := hM6.cell 0; have hM6_1 := hM6.cell 1; simp at hM6_0 hM6_1
      have hF6_l := hF6.lt; have hF6_0 := hF6.cell 0; have hF6_1 := hF6.cell 1; simp at hF6_0 hF6_1
      clear hM6 hF6 hown6
      go_wp2_with fail
      rw [← Hq.out]
      go_roundg (ps.length - (j + 1))
      case measure => have := hgj.out; omega
      case rel => exact ⟨j + 1, by go_num, by omega, rfl, by rw [HA2.out]; exact hown7, by rw [HM2.out, Hmn2.out]; exact hM7, hb7A⟩
  · obtain rfl : j = ps.length := by omega
    rename World => wo
    rw [List.take_length] at hMs hown
    have hmo := HM.out ps.length
    rw [List.take_length] at hmo
    have Hfl : Hid ((ps.map (afF l y2)).length = ps.length) := List.length_map ..
    have HFs : Hid (∀ j (h : j < ps.length) (h' : j < (ps.map (afF l y2)).length), (ps.map (afF l y2))[j] = afF l y2 ps[j]) := fun j h h' => List.getElem_map ..
    generalize ps.map (afF l y2) = fs at *
    generalize mostP l y2 ps = m at *
    obtain ⟨m1, m2⟩ := m
    have hbd := bndF_bd h1 h2 hmo
    have HPt : Hid (∀ W, Calls Tryz.prog 123 #[.int .i64 (percent * m1), .int .i64 (100 * m2)] W (Gives (.agg #[.int .i64 (bndF percent (m1, m2)).1, .int .i64 (bndF percent (m1, m2)).2]) W)) := fun W => lowest_any _ _ W (by obtain ⟨⟨_, _⟩, _⟩ := hbd; simp only at *; omega) (by obtain ⟨_, _, _, _⟩ := hmo; simp only at *; omega) (by obtain ⟨_, _, _, _⟩ := hmo; simp only at *; omega)
    obtain ⟨⟨e1, e2⟩, ⟨e3, e4⟩, e5, e6⟩ := hbd
    obtain ⟨t1, t2, t3, t4⟩ := hmo
    generalize bndF percent (m1, m2) = bd at *
    obtain ⟨b1, b2⟩ := bd
    simp only at e1 e2 e3 e4 e5 e6 t1 t2 t3 t4 hMs HPt
    have hwm : IntKind.i64.wrap (100 * m2) = 100 * m2 := IntWalk.i64_in _ (by omega)
    have hwp : IntKind.i64.wrap (percent * m1) = percent * m1 := IntWalk.i64_in _ (by omega)
    obtain ⟨fa, fc, rfl, hfa, hfb, -⟩ := hown.sa
    have Hfb := Lib.hid hfb
    have hOx := hO3.below hbx
    have hxc := (hX0.below hb0x).cell 1
    have hMs_l := hMs.lt; have hMs_0 := hMs.cell 0; have hMs_1 := hMs.cell 1; simp at hMs_0 hMs_1
    clear hfb hown hgj hj hjl
    go_wp2_with fail
    refine (HPt.out _).mono ?_
    rintro e w4 ⟨rfl, hb4⟩
    have hfa4 := (hfa.below hb4).alloc (.cells #[.int .i64 b1, .int .i64 b2] 37)
    have hOb := (hOx.below hb4).alloc (.cells #[.int .i64 b1, .int .i64 b2] 37)
    have hBd := Box.new w4 37 #[.int .i64 b1, .int .i64 b2]
    have hb04 := below_next hb0x hb4
    have hz4 := hb04.size
    have hb04A : Below Wr.heap.size Wr (w4.alloc (.cells #[.int .i64 b1, .int .i64 b2] 37)) := by (repeat' (first | exact Below.refl _ _ | assumption | refine Below.setCell ?_ ?_ _ | refine below_drewN ?_ _ | refine Below.drew ?_ | refine Below.alloc ?_ ?_ _ | (with_reducible refine Below.trans ?_ (Below.mono hb ?_)) | (with_reducible refine Below.trans ?_ (Below.mono hb0 ?_)) | (with_reducible refine Below.trans ?_ (Below.mono hb1 ?_)) | (with_reducible refine Below.trans ?_ (Below.mono hb2 ?_)) | (with_reducible refine Below.trans ?_ (Below.mono hb3 ?_)) | (with_reducible refine Below.trans ?_ (Below.mono hb4 ?_)) | (with_reducible refine Below.trans ?_ (Below.mono hb5 ?_)) | (with_reducible refine Below.trans ?_ (Below.mono hb6 ?_)) | (with_reducible refine Below.trans ?_ (Below.mono hb7 ?_)) | (with_reducible refine Below.trans ?_ (Below.mono hb8 ?_)) | (with_reducible refine Below.trans ?_ (Below.mono hb9 ?_)) | (with_reducible refine Below.trans ?_ (Below.mono hb10 ?_)) | (with_reducible refine Below.trans ?_ (Below.mono hb11 ?_)) | (with_reducible refine Below.trans ?_ (Below.mono hb12 ?_)) | (with_reducible refine Below.trans ?_ (Below.mono hb13 ?_)) | (with_reducible refine Below.trans ?_ (Below.mono hb14 ?_)) | (with_reducible refine Below.trans ?_ (Below.mono hb15 ?_)) | omega | (simp; done) | (simp; omega)))
    have hzw : Wr.heap.size < w4.heap.size := by have := hb4.size; omega
    have hxc := (hX0.below hb04A).cell 1
    clear hMs hMs_l hMs_0 hMs_1 hfa hOx hb4 hb04 hO3
    go_wp2_with fail
    clear hxc
    have hz4A := hb04A.size
    generalize hWb : w4.alloc (.cells #[.int .i64 b1, .int .i64 b2] 37) = Wb at *
    clear hWb
    go_loopg [56] ps.length (fun gj i wx => ∃ j : Nat, i = .int .i64 j ∧ j ≤ ps.length ∧ Hid (gj = ps.length - j) ∧ Box wx (w.heap.size + 1 + 1) 76 #[.string y1, .int .i64 ((hiN l bs y2 y1 (b1, b2) (ps.take j) : Nat) : Int), .int .i64 ((loN l bs y2 y1 (b1, b2) (ps.take j) : Nat) : Int)] ∧ Kp (fun b => b = w.heap.size + 1 + 1) Wb wx)
    case atStart => exact ⟨0, rfl, by omega, rfl, hOb, Kp.refl _ _⟩
    clear hOb
    clear hb0x hbx hzx hzM
    obtain ⟨j, rfl, hj, hgj, hOb, hK⟩ := hrel
    have hzK := hK.size
    have hbx : Below Wr.heap.size Wr wr := belowKp hb04A hK (by rintro k rfl; exact Nat.le_of_eq Hz0.out) hz4A
    by_cases hjl : j < ps.length
    · obtain ⟨pb, poff, hqa, d0, d1, d2, d3, d4⟩ := (hP0.below hbx).1.paper hjl
      have hx := hsm ps[j] (List.getElem_mem hjl)
      have hjf : j < fs.length := by rw [Hfl.out]; exact hjl
      obtain ⟨qb, qoff, hfq, g0, g1⟩ := (hfa4.kp hK (fun x hx _ e => by have := Hfb.out x hx; have := Hz0.out; omega)).frc hjf
      rw [HFs.out j hjl hjf] at g0 g1
      have hfo := HQ.out ps[j] (List.getElem_mem hjl)
      have Hq := Lib.hid hqa
      have Hf := Lib.hid hfq
      rw [hqa, hfq]
      have Hqb := Lib.hid (Hfb.out _ hfq)
      clear hqa hfq
      have Hhn := hiN_snoc l bs y2 y1 (b1, b2) hjl
      have Hln := loN_snoc l bs y2 y1 (b1, b2) hjl
      have hhl := hiN_le l bs y2 y1 (b1, b2) (ps.take j)
      have hll := loN_le l bs y2 y1 (b1, b2) (ps.take j)
      rw [List.length_take] at hhl hll
      unfold hiB at Hhn
      unfold loB at Hln
      generalize ps[j] = p at *
      obtain ⟨x1, x2, x3, au, tt, a1, n1, a2, n2⟩ := p
      have hx1 := hx.1
      clear hx
      simp only at Hhn Hln d0 d1 d2 d3 d4 hx1
      have hlk0 := looked_lv hnd (x1, y1)
      have hlv := HLv.out (x1, y1)
      generalize afF l y2 ⟨x1, x2, x3, au, tt, a1, n1, a2, n2⟩ = f at *
      obtain ⟨f1, f2⟩ := f
      generalize lvO bs (x1, y1) = lv at *
      obtain ⟨v1, v2⟩ := hlv
      obtain ⟨u1, u2, u3, u4⟩ := hfo
      simp only at u1 u2 u3 u4 g0 g1
      have HCm := Lib.hid (fun W => lessF_any (f1, f2) (b1, b2) W ⟨u1, by show f1 ≤ _; omega⟩ ⟨by show 0 ≤ f2; omega, by show f2 ≤ _; omega⟩ ⟨e3, e4⟩ ⟨by show 0 ≤ b2; omega, e6⟩)
      simp only at HCm
      generalize lessF (f1, f2) (b1, b2) = le at *
      generalize hiN l bs y2 y1 (b1, b2) (ps.take j) = hn at *
      generalize loN l bs y2 y1 (b1, b2) (ps.take j) = ln at *
      replace Hhn := Lib.hid Hhn
      replace Hln := Lib.hid Hln
      have hbA : Below Wr.heap.size Wr (wr.alloc (.cells #[.string x1, .string x2, .string x3, .slice a1 au.length n1, .slice a2 tt.length n2] 86)) := hbx.alloc hbx.size _
      have hOA := hOb.alloc (.cells #[.string x1, .string x2, .string x3, .slice a1 au.length n1, .slice a2 tt.length n2] 86)
      have hKA := hK.alloc (.cells #[.string x1, .string x2, .string x3, .slice a1 au.length n1, .slice a2 tt.length n2] 86)
      have hBo := Box.new wr 86 #[.string x1, .string x2, .string x3, .slice a1 au.length n1, .slice a2 tt.length n2]
      have hlk : (Instr.lookup 133 (.map (some lb)) (.agg #[.string x1, .string y1]) false).run Tryz.prog (wr.alloc (.cells #[.string x1, .string x2, .string x3, .slice a1 au.length n1, .slice a2 tt.length n2] 86)).drew = .ok (.int .i64 lv) (wr.alloc (.cells #[.string x1, .string x2, .string x3, .slice a1 au.length n1, .slice a2 tt.length n2] 86)).drew := by rw [← hlk0]; exact (hG0.below hbA.drew).look keys2 Tryz.underlying133 (.int .i64 0) (fun w => Tryz.zeroValue3 w) (x1, y1) ⟨by show x1.size ≤ 1000000; omega, by show y1.size ≤ 1000000; omega⟩ false
      have hxc := (hX0.below hbA.drew).cell 3
      have hrc := (hRd.below hbA.drew).cell 0
      have hpc := hBo.drew.cell 0
      have hO5 := hOA.drew
      have hK5 := hKA.drew
      have hB5 := hBd.kp hK5 (fun e => by have := Hz0.out; omega)
      have hbw : Below wr.heap.size wr (wr.alloc (.cells #[.string x1, .string x2, .string x3, .slice a1 au.length n1, .slice a2 tt.length n2] 86)).drew := (Below.alloc (Below.refl wr.heap.size wr) (Nat.le_refl _) _).drew
      have hg0 := cell_later hbw g0
      have hg1 := cell_later hbw g1
      have Hlk := Lib.hid hlk
      clear hOb hlk0 hlk
      go_upto_region 16 with (fail)
      refine wp_region_held_drew (S := (fun wy => wy.cell? ⟨wr.heap.size, 0, none⟩ = some (.string x1) ∧ wy.cell? ⟨w.heap.size, 0, none⟩ = some (.string y1) ∧ wy.cell? ⟨xb, 3, none⟩ = some (.map (some lb)) ∧ (Instr.lookup 133 (.map (some lb)) (.agg #[.string x1, .string y1]) false).run Tryz.prog wy = .ok (.int .i64 lv) wy)) (by kernel_rfl) ?hS (fun hHeld => ?_)
      case hS => exact ⟨hpc, hrc, hxc, Hlk.out⟩
      refine rtake (i := 0) (d := (some 61)) (v := ?_) rfl (by kernel_rfl) (by kernel_rfl) (by kernel_rfl) (by kernel_rfl) (fun _ _ _ h => h) (by kernel_rfl) (by assumption) ?_ ?_
      rotate_left 1
      · (intro wI hSI; (try dsimp only at hSI); go_simp; (try with_reducible rfl))
      simp only [Act.put, List.setIfInBounds_toArray, List.set_cons_zero, List.set_cons_succ]
      refine rtake (i := 1) (d := (some 62)) (v := ?_) rfl (by kernel_rfl) (by kernel_rfl) (by kernel_rfl) (by kernel_rfl) (fun _ _ _ h => h) (by kernel_rfl) (by assumption) ?_ ?_
      rotate_left 1
      · (intro wI hSI; (try dsimp only at hSI); go_simp; (try with_reducible rfl))
      simp only [Act.put, List.setIfInBounds_toArray, List.set_cons_zero, List.set_cons_succ]
      refine rtake (i := 2) (d := (some 63)) (v := ?_) rfl (by kernel_rfl) (by kernel_rfl) (by kernel_rfl) (by kernel_rfl) (fun _ _ _ h => h) (by kernel_rfl) (by assumption) ?_ ?_
      rotate_left 1
      · (intro wI hSI; (try dsimp only at hSI); go_simp; (try with_reducible rfl))
      simp only [Act.put, List.setIfInBounds_toArray, List.set_cons_zero, List.set_cons_succ]
      refine rtake (i := 3) (d := (some 64)) (v := ?_) rfl (by kernel_rfl) (by kernel_rfl) (by kernel_rfl) (by kernel_rfl) (fun _ _ _ h => h) (by kernel_rfl) (by assumption) ?_ ?_
      rotate_left 1
      · (intro wI hSI; (try dsimp only at hSI); go_simp; (try with_reducible rfl))
      simp only [Act.put, List.setIfInBounds_toArray, List.set_cons_zero, List.set_cons_succ]
      refine rtake (i := 4) (d := (some 65)) (v := ?_) rfl (by kernel_rfl) (by kernel_rfl) (by kernel_rfl) (by kernel_rfl) (fun _ _ _ h => h) (by kernel_rfl) (by assumption) ?_ ?_
      rotate_left 1
      · (intro wI hSI; (try dsimp only at hSI); go_simp; (try with_reducible rfl))
      simp only [Act.put, List.setIfInBounds_toArray, List.set_cons_zero, List.set_cons_succ]
      refine rtake (i := 5) (d := (some 66)) (v := ?_) rfl (by kernel_rfl) (by kernel_rfl) (by kernel_rfl) (by kernel_rfl) (fun _ _ _ h => h) (by kernel_rfl) (by assumption) ?_ ?_
      rotate_left 1
      · (intro wI hSI; (try dsimp only at hSI); go_simp; (try with_reducible rfl))
      simp only [Act.put, List.setIfInBounds_toArray, List.set_cons_zero, List.set_cons_succ]
      refine rtake (i := 6) (d := (some 67)) (v := ?_) rfl (by kernel_rfl) (by kernel_rfl) (by kernel_rfl) (by kernel_rfl) (fun _ _ _ h => h) (by kernel_rfl) (by assumption) ?_ ?_
      rotate_left 1
      · (intro wI hSI; (try dsimp only at hSI); go_simp; (try with_reducible rfl))
      simp only [Act.put, List.setIfInBounds_toArray, List.set_cons_zero, List.set_cons_succ]
      refine rtake (i := 7) (d := (some 68)) (v := ?_) rfl (by kernel_rfl) (by kernel_rfl) (by kernel_rfl) (by kernel_rfl) (fun _ _ _ h => h) (by kernel_rfl) (by assumption) ?_ ?_
      rotate_left 1
      · (intro wI hSI; (try dsimp only at hSI); go_simp; (try with_reducible rfl))
      simp only [Act.put, List.setIfInBounds_toArray, List.set_cons_zero, List.set_cons_succ]
      refine rtake (i := 8) (d := (some 69)) (v := ?_) rfl (by kernel_rfl) (by kernel_rfl) (by kernel_rfl) (by kernel_rfl) (fun _ _ _ h => h) (by kernel_rfl) (by assumption) ?_ ?_
      rotate_left 1
      · (intro wI hSI; (try dsimp only at hSI); go_simp; (try with_reducible rfl))
      simp only [Act.put, List.setIfInBounds_toArray, List.set_cons_zero, List.set_cons_succ]
      refine rtake (i := 9) (d := (some 70)) (v := ?_) rfl (by kernel_rfl) (by kernel_rfl) (by kernel_rfl) (by kernel_rfl) (fun _ _ _ h => h) (by kernel_rfl) (by assumption) ?_ ?_
      rotate_left 1
      · (intro wI hSI; (try dsimp only at hSI); go_simp; (try with_reducible rfl))
      simp only [Act.put, List.setIfInBounds_toArray, List.set_cons_zero, List.set_cons_succ]
      refine rtake (i := 10) (d := (some 16)) (v := ?_) rfl (by kernel_rfl) (by kernel_rfl) (by kernel_rfl) (by kernel_rfl) (fun _ _ _ h => h) (by kernel_rfl) (by assumption) ?_ ?_
      rotate_left 1
      · (intro wI hSI; (try dsimp only at hSI); go_simp; (try with_reducible rfl))
      simp only [Act.put, List.setIfInBounds_toArray, List.set_cons_zero, List.set_cons_succ]
      refine wpAnyH_done (by kernel_rfl) ?_ _
      clear hHeld hxc hrc hpc Hlk hBo hbw hOA hKA hbA
      generalize (wr.alloc (.cells #[.string x1, .string x2, .string x3, .slice a1 au.length n1, .slice a2 tt.length n2] 86)).drew = w5 at *
      have hk1 : (0 : Int) ≤ (j : Int) := by omega
      have hk3 : (j : Int) < (fs.length : Int) := by omega
      go_upto_region 17 with (fail)
      cases hd3 : decide (3 ≤ lv)
      · refine wp_region_held_drew (S := (fun wy => wy.cell? ⟨qb, qoff + j * 2, none⟩ = some (.int .i64 f1) ∧ wy.cell? ⟨qb, qoff + j * 2 + 1, none⟩ = some (.int .i64 f2) ∧ wy.cell? ⟨w4.heap.size, 0, none⟩ = some (.int .i64 b1) ∧ wy.cell? ⟨w4.heap.size, 1, none⟩ = some (.int .i64 b2))) (by kernel_rfl) ?hS (fun hHeld => ?_)
        case hS => exact ⟨hg0, hg1, (hB5).cell 0, (hB5).cell 1⟩
        refine rtake (i := 0) (d := (some 72)) (v := ?_) rfl (by kernel_rfl) (by kernel_rfl) (by kernel_rfl) (by kernel_rfl) (fun _ _ _ h => h) (by kernel_rfl) (by assumption) ?_ ?_
        rotate_left 1
        · (intro wI hSI; (try dsimp only at hSI); go_simp; (try with_reducible rfl))
        simp only [Act.put, List.setIfInBounds_toArray, List.set_cons_zero, List.set_cons_succ]
        refine rtake (i := 1) (d := (some 73)) (v := ?_) rfl (by kernel_rfl) (by kernel_rfl) (by kernel_rfl) (by kernel_rfl) (fun _ _ _ h => h) (by kernel_rfl) (by assumption) ?_ ?_
        rotate_left 1
        · (intro wI hSI; (try dsimp only at hSI); go_simp; (try with_reducible rfl))
        simp only [Act.put, List.setIfInBounds_toArray, List.set_cons_zero, List.set_cons_succ]
        (try rw [hd3])
        refine rtake (i := 2) (d := (some 74)) (v := ?_) rfl (by kernel_rfl) (by kernel_rfl) (by kernel_rfl) (by kernel_rfl) (fun _ _ _ h => h) (by kernel_rfl) (by assumption) ?_ ?_
        rotate_left 1
        · (intro wI hSI; (try dsimp only at hSI); go_simp; (try with_reducible rfl))
        simp only [Act.put, List.setIfInBounds_toArray, List.set_cons_zero, List.set_cons_succ]
        refine rskip (i := 3) (d := (some 75)) rfl (by kernel_rfl) (by kernel_rfl) (by kernel_rfl) (by kernel_rfl) (fun _ _ _ h => h) (by kernel_rfl) (by assumption) ?_
        simp only [Act.put, List.setIfInBounds_toArray, List.set_cons_zero, List.set_cons_succ]
        refine rskip (i := 4) (d := (some 76)) rfl (by kernel_rfl) (by kernel_rfl) (by kernel_rfl) (by kernel_rfl) (fun _ _ _ h => h) (by kernel_rfl) (by assumption) ?_
        simp only [Act.put, List.setIfInBounds_toArray, List.set_cons_zero, List.set_cons_succ]
        refine rskip (i := 5) (d := (some 77)) rfl (by kernel_rfl) (by kernel_rfl) (by kernel_rfl) (by kernel_rfl) (fun _ _ _ h => h) (by kernel_rfl) (by assumption) ?_
        simp only [Act.put, List.setIfInBounds_toArray, List.set_cons_zero, List.set_cons_succ]
        refine rskip (i := 6) (d := (some 78)) rfl (by kernel_rfl) (by kernel_rfl) (by kernel_rfl) (by kernel_rfl) (fun _ _ _ h => h) (by kernel_rfl) (by assumption) ?_
        simp only [Act.put, List.setIfInBounds_toArray, List.set_cons_zero, List.set_cons_succ]
        refine rskip (i := 7) (d := (some 79)) rfl (by kernel_rfl) (by kernel_rfl) (by kernel_rfl) (by kernel_rfl) (fun _ _ _ h => h) (by kernel_rfl) (by assumption) ?_
        simp only [Act.put, List.setIfInBounds_toArray, List.set_cons_zero, List.set_cons_succ]
        refine rcall (i := 8) (d := (some 80)) (by kernel_rfl) rfl (by kernel_rfl) (fun K hK => ?_)
        rw [if_neg (by rw [show Region.wanted _ _ = false by kernel_rfl]; decide)]
        refine hK.out _ _ ?hS (fun hHeld => ?_)
        case hS => exact hHeld
        clear hK K
        simp only [Act.put, List.setIfInBounds_toArray, List.set_cons_zero, List.set_cons_succ]
        refine rtake (i := 9) (d := (some 81)) (v := ?_) rfl (by kernel_rfl) (by kernel_rfl) (by kernel_rfl) (by kernel_rfl) (fun _ _ _ h => h) (by kernel_rfl) (by assumption) ?_ ?_
        rotate_left 1
        · (intro wI hSI; (try dsimp only at hSI); go_simp; (try with_reducible rfl))
        simp only [Act.put, List.setIfInBounds_toArray, List.set_cons_zero, List.set_cons_succ]
        refine rtake (i := 10) (d := (some 71)) (v := ?_) rfl (by kernel_rfl) (by kernel_rfl) (by kernel_rfl) (by kernel_rfl) (fun _ _ _ h => h) (by kernel_rfl) (by assumption) ?_ ?_
        rotate_left 1
        · (intro wI hSI; (try dsimp only at hSI); go_simp; (try with_reducible rfl))
        simp only [Act.put, List.setIfInBounds_toArray, List.set_cons_zero, List.set_cons_succ]
        refine wpAnyH_done (by kernel_rfl) ?_ _
        clear hHeld
        have hO6 := hO5.drew
        have hK6 := hK5.drew
        have hB6 := hB5.drew
        have hg06 := (show w5.drew.cell? _ = _ from hg0)
        have hg16 := (show w5.drew.cell? _ = _ from hg1)
        rw [hd3] at Hhn
        clear hO5 hK5 hB5 hg0 hg1
        generalize w5.drew = w6 at *
        go_upto_region 19 with (fail)
        by_cases hl1 : lv = 1
        · subst hl1
          clear hd3
          refine wp_region_held_drew (S := (fun wy => wy.cell? ⟨qb, qoff + j * 2, none⟩ = some (.int .i64 f1) ∧ wy.cell? ⟨qb, qoff + j * 2 + 1, none⟩ = some (.int .i64 f2) ∧ wy.cell? ⟨w4.heap.size, 0, none⟩ = some (.int .i64 b1) ∧ wy.cell? ⟨w4.heap.size, 1, none⟩ = some (.int .i64 b2))) (by kernel_rfl) ?hS (fun hHeld => ?_)
          case hS => exact ⟨hg06, hg16, (hB6).cell 0, (hB6).cell 1⟩
          refine rtake (i := 0) (d := (some 87)) (v := ?_) rfl (by kernel_rfl) (by kernel_rfl) (by kernel_rfl) (by kernel_rfl) (fun _ _ _ h => h) (by kernel_rfl) (by assumption) ?_ ?_
          rotate_left 1
          · (intro wI hSI; (try dsimp only at hSI); go_simp; (try with_reducible rfl))
          simp only [Act.put, List.setIfInBounds_toArray, List.set_cons_zero, List.set_cons_succ]
          refine rtake (i := 1) (d := (some 88)) (v := ?_) rfl (by kernel_rfl) (by kernel_rfl) (by kernel_rfl) (by kernel_rfl) (fun _ _ _ h => h) (by kernel_rfl) (by assumption) ?_ ?_
          rotate_left 1
          · (intro wI hSI; (try dsimp only at hSI); go_simp; (try with_reducible rfl))
          simp only [Act.put, List.setIfInBounds_toArray, List.set_cons_zero, List.set_cons_succ]
          refine rtake (i := 2) (d := (some 89)) (v := ?_) rfl (by kernel_rfl) (by kernel_rfl) (by kernel_rfl) (by kernel_rfl) (fun _ _ _ h => h) (by kernel_rfl) (by assumption) ?_ ?_
          rotate_left 1
          · (intro wI hSI; (try dsimp only at hSI); go_simp; (try with_reducible rfl))
          simp only [Act.put, List.setIfInBounds_toArray, List.set_cons_zero, List.set_cons_succ]
          refine rtake (i := 3) (d := (some 90)) (v := ?_) rfl (by kernel_rfl) (by kernel_rfl) (by kernel_rfl) (by kernel_rfl) (fun _ _ _ h => h) (by kernel_rfl) (by assumption) ?_ ?_
          rotate_left 1
          · (intro wI hSI; (try dsimp only at hSI); go_simp; (try with_reducible rfl))
          simp only [Act.put, List.setIfInBounds_toArray, List.set_cons_zero, List.set_cons_succ]
          refine rtake (i := 4) (d := (some 91)) (v := ?_) rfl (by kernel_rfl) (by kernel_rfl) (by kernel_rfl) (by kernel_rfl) (fun _ _ _ h => h) (by kernel_rfl) (by assumption) ?_ ?_
          rotate_left 1
          · (intro wI hSI; (try dsimp only at hSI); go_simp; (try with_reducible rfl))
          simp only [Act.put, List.setIfInBounds_toArray, List.set_cons_zero, List.set_cons_succ]
          refine rtake (i := 5) (d := (some 92)) (v := ?_) rfl (by kernel_rfl) (by kernel_rfl) (by kernel_rfl) (by kernel_rfl) (fun _ _ _ h => h) (by kernel_rfl) (by assumption) ?_ ?_
          rotate_left 1
          · (intro wI hSI; (try dsimp only at hSI); go_simp; (try with_reducible rfl))
          simp only [Act.put, List.setIfInBounds_toArray, List.set_cons_zero, List.set_cons_succ]
          refine rtake (i := 6) (d := (some 93)) (v := ?_) rfl (by kernel_rfl) (by kernel_rfl) (by kernel_rfl) (by kernel_rfl) (fun _ _ _ h => h) (by kernel_rfl) (by assumption) ?_ ?_
          rotate_left 1
          · (intro wI hSI; (try dsimp only at hSI); go_simp; (try with_reducible rfl))
          simp only [Act.put, List.setIfInBounds_toArray, List.set_cons_zero, List.set_cons_succ]
          refine rtake (i := 7) (d := (some 94)) (v := ?_) rfl (by kernel_rfl) (by kernel_rfl) (by kernel_rfl) (by kernel_rfl) (fun _ _ _ h => h) (by kernel_rfl) (by assumption) ?_ ?_
          rotate_left 1
          · (intro wI hSI; (try dsimp only at hSI); go_simp; (try with_reducible rfl))
          simp only [Act.put, List.setIfInBounds_toArray, List.set_cons_zero, List.set_cons_succ]
          refine rcall (i := 8) (d := (some 95)) (by kernel_rfl) rfl (by kernel_rfl) (fun K hK => ?_)
          rw [if_pos (by kernel_rfl)]; go_simp; go_at_call 124; refine (HCm.out _).mono ?_; rintro e w7 ⟨rfl, hb7⟩
          refine hK.out _ _ ?hS (fun hHeld => ?_)
          case hS => exact ⟨cell_later hb7 hHeld.1, cell_later hb7 hHeld.2.1, cell_later hb7 hHeld.2.2.1, cell_later hb7 hHeld.2.2.2⟩
          clear hK K
          simp only [Act.put, List.setIfInBounds_toArray, List.set_cons_zero, List.set_cons_succ]
          refine rtake (i := 9) (d := (some 96)) (v := ?_) rfl (by kernel_rfl) (by kernel_rfl) (by kernel_rfl) (by kernel_rfl) (fun _ _ _ h => h) (by kernel_rfl) (by assumption) ?_ ?_
          rotate_left 1
          · (intro wI hSI; (try dsimp only at hSI); go_simp; (try with_reducible rfl))
          simp only [Act.put, List.setIfInBounds_toArray, List.set_cons_zero, List.set_cons_succ]
          refine rtake (i := 10) (d := (some 97)) (v := ?_) rfl (by kernel_rfl) (by kernel_rfl) (by kernel_rfl) (by kernel_rfl) (fun _ _ _ h => h) (by kernel_rfl) (by assumption) ?_ ?_
          rotate_left 1
          · (intro wI hSI; (try dsimp only at hSI); go_simp; (try with_reducible rfl))
          simp only [Act.put, List.setIfInBounds_toArray, List.set_cons_zero, List.set_cons_succ]
          refine rtake (i := 11) (d := (some 86)) (v := ?_) rfl (by kernel_rfl) (by kernel_rfl) (by kernel_rfl) (by kernel_rfl) (fun _ _ _ h => h) (by kernel_rfl) (by assumption) ?_ ?_
          rotate_left 1
          · (intro wI hSI; (try dsimp only at hSI); go_simp; (try with_reducible rfl))
          simp only [Act.put, List.setIfInBounds_toArray, List.set_cons_zero, List.set_cons_succ]
          refine wpAnyH_done (by kernel_rfl) ?_ _
          clear hHeld
          replace hO6 := hO6.drew.below hb7
          replace hK6 := hK6.drew.trans (Kp.of_below hb7)
          clear hB6 hg06 hg16 hb7
          cases le
          · have Hh2 : Hid (hiN l bs y2 y1 (b1, b2) (ps.take (j + 1)) = hn + if false = true then 1 else 0) := by show _ = _; rw [Hhn.out]; simp
            have Hl2 : Hid (loN l bs y2 y1 (b1, b2) (ps.take (j + 1)) = ln + if false = true then 0 else 1) := by show _ = _; rw [Hln.out]; simp
            clear Hhn Hln
            have hw : IntKind.i64.wrap ((ln : Int) + 1) = (ln : Int) + 1 := IntWalk.i64_in _ (by omega)
            have hfr := hO6.frozen 2
            have hO7 := hO6.set 2 (.int .i64 ((ln : Int) + 1))
            have hK7 := hK6.setCell (p := ⟨w.heap.size + 1 + 1, 2, none⟩) (.inl rfl) (.int .i64 ((ln : Int) + 1))
            have hO6_l := hO6.lt; have hO6_0 := hO6.cell 0; have hO6_1 := hO6.cell 1; have hO6_2 := hO6.cell 2; simp at hO6_0 hO6_1 hO6_2
            clear hO6
            go_wp2_with fail
            rw [← Hq.out, ← Hf.out]
            go_roundg (ps.length - (j + 1))
            case measure => have := hgj.out; omega
            case rel => exact ⟨j + 1, by go_num, by omega, rfl, by rw [Hh2.out, Hl2.out]; simpa using hO7, hK7⟩
          · have Hh2 : Hid (hiN l bs y2 y1 (b1, b2) (ps.take (j + 1)) = hn) := by show _ = _; rw [Hhn.out]; simp
            have Hl2 : Hid (loN l bs y2 y1 (b1, b2) (ps.take (j + 1)) = ln) := by show _ = _; rw [Hln.out]; simp
            clear Hhn Hln
            go_wp2_with fail
            rw [← Hq.out, ← Hf.out]
            go_roundg (ps.length - (j + 1))
            case measure => have := hgj.out; omega
            case rel => exact ⟨j + 1, by go_num, by omega, rfl, by rw [Hh2.out, Hl2.out]; exact hO6, hK6⟩
        · have hq : (lv == 1) = false := by simpa using hl1
          have hq2 : decide (lv = 1) = false := by simpa using hl1
          refine wp_region_held_drew (S := (fun wy => wy.cell? ⟨qb, qoff + j * 2, none⟩ = some (.int .i64 f1) ∧ wy.cell? ⟨qb, qoff + j * 2 + 1, none⟩ = some (.int .i64 f2) ∧ wy.cell? ⟨w4.heap.size, 0, none⟩ = some (.int .i64 b1) ∧ wy.cell? ⟨w4.heap.size, 1, none⟩ = some (.int .i64 b2))) (by kernel_rfl) ?hS (fun hHeld => ?_)
          case hS => exact ⟨hg06, hg16, (hB6).cell 0, (hB6).cell 1⟩
          refine rtake (i := 0) (d := (some 87)) (v := ?_) rfl (by kernel_rfl) (by kernel_rfl) (by kernel_rfl) (by kernel_rfl) (fun _ _ _ h => h) (by kernel_rfl) (by assumption) ?_ ?_
          rotate_left 1
          · (intro wI hSI; (try dsimp only at hSI); go_simp; (try with_reducible rfl))
          simp only [Act.put, List.setIfInBounds_toArray, List.set_cons_zero, List.set_cons_succ]
          refine rtake (i := 1) (d := (some 88)) (v := ?_) rfl (by kernel_rfl) (by kernel_rfl) (by kernel_rfl) (by kernel_rfl) (fun _ _ _ h => h) (by kernel_rfl) (by assumption) ?_ ?_
          rotate_left 1
          · (intro wI hSI; (try dsimp only at hSI); go_simp; (try with_reducible rfl))
          simp only [Act.put, List.setIfInBounds_toArray, List.set_cons_zero, List.set_cons_succ]
          (try rw [hq])
          refine rtake (i := 2) (d := (some 89)) (v := ?_) rfl (by kernel_rfl) (by kernel_rfl) (by kernel_rfl) (by kernel_rfl) (fun _ _ _ h => h) (by kernel_rfl) (by assumption) ?_ ?_
          rotate_left 1
          · (intro wI hSI; (try dsimp only at hSI); go_simp; (try with_reducible rfl))
          simp only [Act.put, List.setIfInBounds_toArray, List.set_cons_zero, List.set_cons_succ]
          refine rskip (i := 3) (d := (some 90)) rfl (by kernel_rfl) (by kernel_rfl) (by kernel_rfl) (by kernel_rfl) (fun _ _ _ h => h) (by kernel_rfl) (by assumption) ?_
          simp only [Act.put, List.setIfInBounds_toArray, List.set_cons_zero, List.set_cons_succ]
          refine rskip (i := 4) (d := (some 91)) rfl (by kernel_rfl) (by kernel_rfl) (by kernel_rfl) (by kernel_rfl) (fun _ _ _ h => h) (by kernel_rfl) (by assumption) ?_
          simp only [Act.put, List.setIfInBounds_toArray, List.set_cons_zero, List.set_cons_succ]
          refine rskip (i := 5) (d := (some 92)) rfl (by kernel_rfl) (by kernel_rfl) (by kernel_rfl) (by kernel_rfl) (fun _ _ _ h => h) (by kernel_rfl) (by assumption) ?_
          simp only [Act.put, List.setIfInBounds_toArray, List.set_cons_zero, List.set_cons_succ]
          refine rskip (i := 6) (d := (some 93)) rfl (by kernel_rfl) (by kernel_rfl) (by kernel_rfl) (by kernel_rfl) (fun _ _ _ h => h) (by kernel_rfl) (by assumption) ?_
          simp only [Act.put, List.setIfInBounds_toArray, List.set_cons_zero, List.set_cons_succ]
          refine rskip (i := 7) (d := (some 94)) rfl (by kernel_rfl) (by kernel_rfl) (by kernel_rfl) (by kernel_rfl) (fun _ _ _ h => h) (by kernel_rfl) (by assumption) ?_
          simp only [Act.put, List.setIfInBounds_toArray, List.set_cons_zero, List.set_cons_succ]
          refine rcall (i := 8) (d := (some 95)) (by kernel_rfl) rfl (by kernel_rfl) (fun K hK => ?_)
          rw [if_neg (by rw [show Region.wanted _ _ = false by kernel_rfl]; decide)]
          refine hK.out _ _ ?hS (fun hHeld => ?_)
          case hS => exact hHeld
          clear hK K
          simp only [Act.put, List.setIfInBounds_toArray, List.set_cons_zero, List.set_cons_succ]
          refine rskip (i := 9) (d := (some 96)) rfl (by kernel_rfl) (by kernel_rfl) (by kernel_rfl) (by kernel_rfl) (fun _ _ _ h => h) (by kernel_rfl) (by assumption) ?_
          simp only [Act.put, List.setIfInBounds_toArray, List.set_cons_zero, List.set_cons_succ]
          refine rtake (i := 10) (d := (some 97)) (v := ?_) rfl (by kernel_rfl) (by kernel_rfl) (by kernel_rfl) (by kernel_rfl) (fun _ _ _ h => h) (by kernel_rfl) (by assumption) ?_ ?_
          rotate_left 1
          · (intro wI hSI; (try dsimp only at hSI); go_simp; (try with_reducible rfl))
          simp only [Act.put, List.setIfInBounds_toArray, List.set_cons_zero, List.set_cons_succ]
          refine rtake (i := 11) (d := (some 86)) (v := ?_) rfl (by kernel_rfl) (by kernel_rfl) (by kernel_rfl) (by kernel_rfl) (fun _ _ _ h => h) (by kernel_rfl) (by assumption) ?_ ?_
          rotate_left 1
          · (intro wI hSI; (try dsimp only at hSI); go_simp; (try with_reducible rfl))
          simp only [Act.put, List.setIfInBounds_toArray, List.set_cons_zero, List.set_cons_succ]
          refine wpAnyH_done (by kernel_rfl) ?_ _
          clear hHeld
          replace hO6 := hO6.drew
          replace hK6 := hK6.drew
          rw [hq2] at Hln
          clear hB6 hg06 hg16
          have Hh2 : Hid (hiN l bs y2 y1 (b1, b2) (ps.take (j + 1)) = hn) := by show _ = _; rw [Hhn.out]; simp
          have Hl2 : Hid (loN l bs y2 y1 (b1, b2) (ps.take (j + 1)) = ln) := by show _ = _; rw [Hln.out]; simp
          clear Hhn Hln
          go_wp2_with fail
          rw [← Hq.out, ← Hf.out]
          go_roundg (ps.length - (j + 1))
          case measure => have := hgj.out; omega
          case rel => exact ⟨j + 1, by go_num, by omega, rfl, by rw [Hh2.out, Hl2.out]; exact hO6, hK6⟩
      · refine wp_region_held_drew (S := (fun wy => wy.cell? ⟨qb, qoff + j * 2, none⟩ = some (.int .i64 f1) ∧ wy.cell? ⟨qb, qoff + j * 2 + 1, none⟩ = some (.int .i64 f2) ∧ wy.cell? ⟨w4.heap.size, 0, none⟩ = some (.int .i64 b1) ∧ wy.cell? ⟨w4.heap.size, 1, none⟩ = some (.int .i64 b2))) (by kernel_rfl) ?hS (fun hHeld => ?_)
        case hS => exact ⟨hg0, hg1, (hB5).cell 0, (hB5).cell 1⟩
        refine rtake (i := 0) (d := (some 72)) (v := ?_) rfl (by kernel_rfl) (by kernel_rfl) (by kernel_rfl) (by kernel_rfl) (fun _ _ _ h => h) (by kernel_rfl) (by assumption) ?_ ?_
        rotate_left 1
        · (intro wI hSI; (try dsimp only at hSI); go_simp; (try with_reducible rfl))
        simp only [Act.put, List.setIfInBounds_toArray, List.set_cons_zero, List.set_cons_succ]
        refine rtake (i := 1) (d := (some 73)) (v := ?_) rfl (by kernel_rfl) (by kernel_rfl) (by kernel_rfl) (by kernel_rfl) (fun _ _ _ h => h) (by kernel_rfl) (by assumption) ?_ ?_
        rotate_left 1
        · (intro wI hSI; (try dsimp only at hSI); go_simp; (try with_reducible rfl))
        simp only [Act.put, List.setIfInBounds_toArray, List.set_cons_zero, List.set_cons_succ]
        (try rw [hd3])
        refine rtake (i := 2) (d := (some 74)) (v := ?_) rfl (by kernel_rfl) (by kernel_rfl) (by kernel_rfl) (by kernel_rfl) (fun _ _ _ h => h) (by kernel_rfl) (by assumption) ?_ ?_
        rotate_left 1
        · (intro wI hSI; (try dsimp only at hSI); go_simp; (try with_reducible rfl))
        simp only [Act.put, List.setIfInBounds_toArray, List.set_cons_zero, List.set_cons_succ]
        refine rtake (i := 3) (d := (some 75)) (v := ?_) rfl (by kernel_rfl) (by kernel_rfl) (by kernel_rfl) (by kernel_rfl) (fun _ _ _ h => h) (by kernel_rfl) (by assumption) ?_ ?_
        rotate_left 1
        · (intro wI hSI; (try dsimp only at hSI); go_simp; (try with_reducible rfl))
        simp only [Act.put, List.setIfInBounds_toArray, List.set_cons_zero, List.set_cons_succ]
        refine rtake (i := 4) (d := (some 76)) (v := ?_) rfl (by kernel_rfl) (by kernel_rfl) (by kernel_rfl) (by kernel_rfl) (fun _ _ _ h => h) (by kernel_rfl) (by assumption) ?_ ?_
        rotate_left 1
        · (intro wI hSI; (try dsimp only at hSI); go_simp; (try with_reducible rfl))
        simp only [Act.put, List.setIfInBounds_toArray, List.set_cons_zero, List.set_cons_succ]
        refine rtake (i := 5) (d := (some 77)) (v := ?_) rfl (by kernel_rfl) (by kernel_rfl) (by kernel_rfl) (by kernel_rfl) (fun _ _ _ h => h) (by kernel_rfl) (by assumption) ?_ ?_
        rotate_left 1
        · (intro wI hSI; (try dsimp only at hSI); go_simp; (try with_reducible rfl))
        simp only [Act.put, List.setIfInBounds_toArray, List.set_cons_zero, List.set_cons_succ]
        refine rtake (i := 6) (d := (some 78)) (v := ?_) rfl (by kernel_rfl) (by kernel_rfl) (by kernel_rfl) (by kernel_rfl) (fun _ _ _ h => h) (by kernel_rfl) (by assumption) ?_ ?_
        rotate_left 1
        · (intro wI hSI; (try dsimp only at hSI); go_simp; (try with_reducible rfl))
        simp only [Act.put, List.setIfInBounds_toArray, List.set_cons_zero, List.set_cons_succ]
        refine rtake (i := 7) (d := (some 79)) (v := ?_) rfl (by kernel_rfl) (by kernel_rfl) (by kernel_rfl) (by kernel_rfl) (fun _ _ _ h => h) (by kernel_rfl) (by assumption) ?_ ?_
        rotate_left 1
        · (intro wI hSI; (try dsimp only at hSI); go_simp; (try with_reducible rfl))
        simp only [Act.put, List.setIfInBounds_toArray, List.set_cons_zero, List.set_cons_succ]
        refine rcall (i := 8) (d := (some 80)) (by kernel_rfl) rfl (by kernel_rfl) (fun K hK => ?_)
        rw [if_pos (by kernel_rfl)]; go_simp; go_at_call 124; refine (HCm.out _).mono ?_; rintro e w6 ⟨rfl, hb6⟩
        refine hK.out _ _ ?hS (fun hHeld => ?_)
        case hS => exact ⟨cell_later hb6 hHeld.1, cell_later hb6 hHeld.2.1, cell_later hb6 hHeld.2.2.1, cell_later hb6 hHeld.2.2.2⟩
        clear hK K
        simp only [Act.put, List.setIfInBounds_toArray, List.set_cons_zero, List.set_cons_succ]
        refine rtake (i := 9) (d := (some 81)) (v := ?_) rfl (by kernel_rfl) (by kernel_rfl) (by kernel_rfl) (by kernel_rfl) (fun _ _ _ h => h) (by kernel_rfl) (by assumption) ?_ ?_
        rotate_left 1
        · (intro wI hSI; (try dsimp only at hSI); go_simp; (try with_reducible rfl))
        simp only [Act.put, List.setIfInBounds_toArray, List.set_cons_zero, List.set_cons_succ]
        refine rtake (i := 10) (d := (some 71)) (v := ?_) rfl (by kernel_rfl) (by kernel_rfl) (by kernel_rfl) (by kernel_rfl) (fun _ _ _ h => h) (by kernel_rfl) (by assumption) ?_ ?_
        rotate_left 1
        · (intro wI hSI; (try dsimp only at hSI); go_simp; (try with_reducible rfl))
        simp only [Act.put, List.setIfInBounds_toArray, List.set_cons_zero, List.set_cons_succ]
        refine wpAnyH_done (by kernel_rfl) ?_ _
        have hO6 := hO5.drew.below hb6
        have hK6 := hK5.drew.trans (Kp.of_below hb6)
        have hB6 := hB5.drew.below hb6
        have hg06 := hHeld.1
        have hg16 := hHeld.2.1
        have hl3 : 3 ≤ lv := of_decide_eq_true hd3
        have hq : (lv == 1) = false := by simp; omega
        have hq2 : decide (lv = 1) = false := by simp; omega
        rw [hd3] at Hhn
        clear hHeld hO5 hK5 hB5 hg0 hg1 hb6 hl3 hd3
        cases le
        · go_upto_region 19 with (fail)
          refine wp_region_held_drew (S := (fun wy => wy.cell? ⟨qb, qoff + j * 2, none⟩ = some (.int .i64 f1) ∧ wy.cell? ⟨qb, qoff + j * 2 + 1, none⟩ = some (.int .i64 f2) ∧ wy.cell? ⟨w4.heap.size, 0, none⟩ = some (.int .i64 b1) ∧ wy.cell? ⟨w4.heap.size, 1, none⟩ = some (.int .i64 b2))) (by kernel_rfl) ?hS (fun hHeld => ?_)
          case hS => exact ⟨hg06, hg16, (hB6).cell 0, (hB6).cell 1⟩
          refine rtake (i := 0) (d := (some 87)) (v := ?_) rfl (by kernel_rfl) (by kernel_rfl) (by kernel_rfl) (by kernel_rfl) (fun _ _ _ h => h) (by kernel_rfl) (by assumption) ?_ ?_
          rotate_left 1
          · (intro wI hSI; (try dsimp only at hSI); go_simp; (try with_reducible rfl))
          simp only [Act.put, List.setIfInBounds_toArray, List.set_cons_zero, List.set_cons_succ]
          refine rtake (i := 1) (d := (some 88)) (v := ?_) rfl (by kernel_rfl) (by kernel_rfl) (by kernel_rfl) (by kernel_rfl) (fun _ _ _ h => h) (by kernel_rfl) (by assumption) ?_ ?_
          rotate_left 1
          · (intro wI hSI; (try dsimp only at hSI); go_simp; (try with_reducible rfl))
          simp only [Act.put, List.setIfInBounds_toArray, List.set_cons_zero, List.set_cons_succ]
          (try rw [hq])
          refine rtake (i := 2) (d := (some 89)) (v := ?_) rfl (by kernel_rfl) (by kernel_rfl) (by kernel_rfl) (by kernel_rfl) (fun _ _ _ h => h) (by kernel_rfl) (by assumption) ?_ ?_
          rotate_left 1
          · (intro wI hSI; (try dsimp only at hSI); go_simp; (try with_reducible rfl))
          simp only [Act.put, List.setIfInBounds_toArray, List.set_cons_zero, List.set_cons_succ]
          refine rskip (i := 3) (d := (some 90)) rfl (by kernel_rfl) (by kernel_rfl) (by kernel_rfl) (by kernel_rfl) (fun _ _ _ h => h) (by kernel_rfl) (by assumption) ?_
          simp only [Act.put, List.setIfInBounds_toArray, List.set_cons_zero, List.set_cons_succ]
          refine rskip (i := 4) (d := (some 91)) rfl (by kernel_rfl) (by kernel_rfl) (by kernel_rfl) (by kernel_rfl) (fun _ _ _ h => h) (by kernel_rfl) (by assumption) ?_
          simp only [Act.put, List.setIfInBounds_toArray, List.set_cons_zero, List.set_cons_succ]
          refine rskip (i := 5) (d := (some 92)) rfl (by kernel_rfl) (by kernel_rfl) (by kernel_rfl) (by kernel_rfl) (fun _ _ _ h => h) (by kernel_rfl) (by assumption) ?_
          simp only [Act.put, List.setIfInBounds_toArray, List.set_cons_zero, List.set_cons_succ]
          refine rskip (i := 6) (d := (some 93)) rfl (by kernel_rfl) (by kernel_rfl) (by kernel_rfl) (by kernel_rfl) (fun _ _ _ h => h) (by kernel_rfl) (by assumption) ?_
          simp only [Act.put, List.setIfInBounds_toArray, List.set_cons_zero, List.set_cons_succ]
          refine rskip (i := 7) (d := (some 94)) rfl (by kernel_rfl) (by kernel_rfl) (by kernel_rfl) (by kernel_rfl) (fun _ _ _ h => h) (by kernel_rfl) (by assumption) ?_
          simp only [Act.put, List.setIfInBounds_toArray, List.set_cons_zero, List.set_cons_succ]
          refine rcall (i := 8) (d := (some 95)) (by kernel_rfl) rfl (by kernel_rfl) (fun K hK => ?_)
          rw [if_neg (by rw [show Region.wanted _ _ = false by kernel_rfl]; decide)]
          refine hK.out _ _ ?hS (fun hHeld => ?_)
          case hS => exact hHeld
          clear hK K
          simp only [Act.put, List.setIfInBounds_toArray, List.set_cons_zero, List.set_cons_succ]
          refine rskip (i := 9) (d := (some 96)) rfl (by kernel_rfl) (by kernel_rfl) (by kernel_rfl) (by kernel_rfl) (fun _ _ _ h => h) (by kernel_rfl) (by assumption) ?_
          simp only [Act.put, List.setIfInBounds_toArray, List.set_cons_zero, List.set_cons_succ]
          refine rtake (i := 10) (d := (some 97)) (v := ?_) rfl (by kernel_rfl) (by kernel_rfl) (by kernel_rfl) (by kernel_rfl) (fun _ _ _ h => h) (by kernel_rfl) (by assumption) ?_ ?_
          rotate_left 1
          · (intro wI hSI; (try dsimp only at hSI); go_simp; (try with_reducible rfl))
          simp only [Act.put, List.setIfInBounds_toArray, List.set_cons_zero, List.set_cons_succ]
          refine rtake (i := 11) (d := (some 86)) (v := ?_) rfl (by kernel_rfl) (by kernel_rfl) (by kernel_rfl) (by kernel_rfl) (fun _ _ _ h => h) (by kernel_rfl) (by assumption) ?_ ?_
          rotate_left 1
          · (intro wI hSI; (try dsimp only at hSI); go_simp; (try with_reducible rfl))
          simp only [Act.put, List.setIfInBounds_toArray, List.set_cons_zero, List.set_cons_succ]
          refine wpAnyH_done (by kernel_rfl) ?_ _
          clear hHeld
          replace hO6 := hO6.drew
          replace hK6 := hK6.drew
          rw [hq2] at Hln
          clear hB6 hg06 hg16
          have Hh2 : Hid (hiN l bs y2 y1 (b1, b2) (ps.take (j + 1)) = hn) := by show _ = _; rw [Hhn.out]; simp
          have Hl2 : Hid (loN l bs y2 y1 (b1, b2) (ps.take (j + 1)) = ln) := by show _ = _; rw [Hln.out]; simp
          clear Hhn Hln
          go_wp2_with fail
          rw [← Hq.out, ← Hf.out]
          go_roundg (ps.length - (j + 1))
          case measure => have := hgj.out; omega
          case rel => exact ⟨j + 1, by go_num, by omega, rfl, by rw [Hh2.out, Hl2.out]; exact hO6, hK6⟩
        · rw [hq2] at Hln
          have Hh2 : Hid (hiN l bs y2 y1 (b1, b2) (ps.take (j + 1)) = hn + if true = true then 1 else 0) := by show _ = _; rw [Hhn.out]; simp
          have Hl2 : Hid (loN l bs y2 y1 (b1, b2) (ps.take (j + 1)) = ln + if true = true then 0 else 1) := by show _ = _; rw [Hln.out]; simp
          clear Hhn Hln
          have hw : IntKind.i64.wrap ((hn : Int) + 1) = (hn : Int) + 1 := IntWalk.i64_in _ (by omega)
          have hfr := hO6.frozen 1
          have hO7 := hO6.set 1 (.int .i64 ((hn : Int) + 1))
          have hK7 := hK6.setCell (p := ⟨w.heap.size + 1 + 1, 1, none⟩) (.inl rfl) (.int .i64 ((hn : Int) + 1))
          have hO6_l := hO6.lt; have hO6_0 := hO6.cell 0; have hO6_1 := hO6.cell 1; have hO6_2 := hO6.cell 2; simp at hO6_0 hO6_1 hO6_2
          clear hO6
          go_wp2_with fail
          rw [← Hq.out, ← Hf.out]
          go_roundg (ps.length - (j + 1))
          case measure => have := hgj.out; omega
          case rel => exact ⟨j + 1, by go_num, by omega, rfl, by rw [Hh2.out, Hl2.out]; simpa using hO7, hK7⟩
    · obtain rfl : j = ps.length := by omega
      rw [List.take_length] at hOb
      generalize ((hiN l bs y2 y1 (b1, b2) ps : Nat) : Int) = h at *
      generalize ((loN l bs y2 y1 (b1, b2) ps : Nat) : Int) = o at *
      have hRx := hRs.below hbx
      have hfr := hRx.frozen 0
      have hfr1 := hRx.frozen 1
      have hfr2 := hRx.frozen 2
      have hb0x := below_next hb0 hbx
      have hzx := hb0x.size
      have hbf : Below w.heap.size w (((wr.setCell ⟨w.heap.size + 1, 0, none⟩ (.string y1)).setCell ⟨w.heap.size + 1, 1, none⟩ (.int .i64 h)).setCell ⟨w.heap.size + 1, 2, none⟩ (.int .i64 o)) := by (repeat' (first | exact Below.refl _ _ | assumption | refine Below.setCell ?_ ?_ _ | refine below_drewN ?_ _ | refine Below.drew ?_ | refine Below.alloc ?_ ?_ _ | (with_reducible refine Below.trans ?_ (Below.mono hb ?_)) | (with_reducible refine Below.trans ?_ (Below.mono hb0 ?_)) | (with_reducible refine Below.trans ?_ (Below.mono hb1 ?_)) | (with_reducible refine Below.trans ?_ (Below.mono hb2 ?_)) | (with_reducible refine Below.trans ?_ (Below.mono hb3 ?_)) | (with_reducible refine Below.trans ?_ (Below.mono hb4 ?_)) | (with_reducible refine Below.trans ?_ (Below.mono hb5 ?_)) | (with_reducible refine Below.trans ?_ (Below.mono hb6 ?_)) | (with_reducible refine Below.trans ?_ (Below.mono hb7 ?_)) | (with_reducible refine Below.trans ?_ (Below.mono hb8 ?_)) | (with_reducible refine Below.trans ?_ (Below.mono hb9 ?_)) | (with_reducible refine Below.trans ?_ (Below.mono hb10 ?_)) | (with_reducible refine Below.trans ?_ (Below.mono hb11 ?_)) | (with_reducible refine Below.trans ?_ (Below.mono hb12 ?_)) | (with_reducible refine Below.trans ?_ (Below.mono hb13 ?_)) | (with_reducible refine Below.trans ?_ (Below.mono hb14 ?_)) | (with_reducible refine Below.trans ?_ (Below.mono hb15 ?_)) | omega | (simp; done) | (simp; omega)))
      have hRx_l := hRx.lt; have hRx_0 := hRx.cell 0; have hRx_1 := hRx.cell 1; have hRx_2 := hRx.cell 2; simp at hRx_0 hRx_1 hRx_2
      have hOb_l := hOb.lt; have hOb_0 := hOb.cell 0; have hOb_1 := hOb.cell 1; have hOb_2 := hOb.cell 2; simp at hOb_0 hOb_1 hOb_2
      clear hRs hRd hgj hj
      go_wp2_with fail
      exact bodyPost_ret (v := .agg #[.string y1, .int .i64 h, .int .i64 o]) (by simp only [results, Tryz.results90]; go_simp) rfl ⟨rfl, hbf⟩
set_option maxRecDepth 100000 in
set_option maxHeartbeats 8000000 in
theorem odd_any (l : List Topic) (al : Option Addr) (capl : Nat) (ps : List Paper) (pa : Option Addr) (pc : Nat) (rs : List Reader) (ra : Option Addr) (rc : Nat) (bs : List Mark) (ba : Option Addr) (bc : Nat) (percent : Int) (w : World) (hE0 : Env w) (hl : SA w al l) (hP : PapersAt w pa ps) (hR : ReadersAt w ra rs) (hB : SA w ba bs)
    (hlen : l.length ≤ 1000000) (hsT : SmallT l) (hpl : ps.length ≤ 1000) (hsm : ∀ p ∈ ps, PSmall p) (hrl : rs.length ≤ 1000) (hrm : ∀ r ∈ rs, RSmall r) (hbl : bs.length ≤ 1000000) (hbm : ∀ x ∈ bs, x.1.size ≤ 1000 ∧ x.2.1.size ≤ 1000) :
    Calls Tryz.prog 33 #[.slice al l.length capl, .slice pa ps.length pc, .slice ra rs.length rc, .slice ba bs.length bc, .int .i64 percent] w (GivesL (oddX l ps rs bs percent) (oddO l ps rs bs percent) w) := by
  have HF : Hid (Calls Tryz.prog 73 #[.slice al l.length capl, .slice pa ps.length pc, .slice ra rs.length rc, .slice ba bs.length bc] w (GivesField (fieldE l ps rs bs) l ps pa pc rs ra rc bs w)) := fieldOf_any l al capl ps pa pc rs ra rc bs ba bc w hE0 hl hP hR hB hlen hsT hpl hsm hrl hrm hbl hbm
  have HX1 : Hid (fieldE l ps rs bs ≠ 0 → oddX l ps rs bs percent = fieldE l ps rs bs) := fun h => by unfold oddX; rw [if_pos h]
  have HX2 : Hid (fieldE l ps rs bs = 0 → oddX l ps rs bs percent = if percent < 1 ∨ 100 < percent then 1 else 0) := fun h => by unfold oddX; rw [if_neg (by simpa using h)]
  have HO1 : Hid (oddX l ps rs bs percent ≠ 0 → oddO l ps rs bs percent = []) := fun h => by unfold oddO; rw [if_neg h]
  have HO2 : Hid (oddX l ps rs bs percent = 0 → oddO l ps rs bs percent = oddL l bs ps percent rs) := fun h => by unfold oddO; rw [if_pos h]
  have HSn := Lib.hid (fun k hk => oddL_snoc l bs ps percent (rs := rs) (k := k) hk)
  have HLn := Lib.hid (fun k => oddL_len l bs ps percent (rs.take k))
  have Hfin := Lib.hid (show oddL l bs ps percent (rs.take rs.length) = oddL l bs ps percent rs by rw [List.take_length])
  have HL0 := Lib.hid (show oddL l bs ps percent (rs.take 0) = [] from rfl)
  have HC : Hid (fieldE l ps rs bs = 0 → 1 ≤ percent → percent ≤ 100 → ∀ (r : Reader) (hr : r ∈ rs) xb W, FieldAt W xb l ps pa pc rs ra rc bs → PapersAt W pa ps → SA W r.a r.skills → Calls Tryz.prog 90 #[.pointer (some ⟨xb, 0, none⟩), encReader r, .int .i64 percent] W (Gives (.agg #[.string r.key, .int .i64 (oddT l bs ps percent r).2.1, .int .i64 (oddT l bs ps percent r).2.2]) W)) := fun hz h1 h2 r hr xb W hX hP hs => by
    obtain ⟨z1, z2, z3, z4, z5, z6⟩ := field_right hz
    exact fieldOdd_any l xb ps pa pc rs ra rc bs r percent W hX hP hs (forest_len z1) hpl hsm (hrm r hr) (skills_fit z1 (readers_right z4 r hr)) (fun p hp => wanted_fit z1 (want_right z3 p hp)) z5 (bids_nodup z5) h1 h2
  have HBd : Hid (∀ r, 0 ≤ (oddT l bs ps percent r).2.1 ∧ (oddT l bs ps percent r).2.1 ≤ 1000 ∧ 0 ≤ (oddT l bs ps percent r).2.2 ∧ (oddT l bs ps percent r).2.2 ≤ 1000) := fun r => by
    unfold oddT
    simp only
    have h1 := hiN_le l bs r.skills r.key (bndF percent (mostP l r.skills ps)) ps
    have h2 := loN_le l bs r.skills r.key (bndF percent (mostP l r.skills ps)) ps
    omega
  generalize oddX l ps rs bs percent = bx at *
  generalize oddO l ps rs bs percent = out at *
  generalize fieldE l ps rs bs = er at *
  go_enter Tryz.func33, Tryz.ntmps33
  go_wp2_with fail
  refine HF.out.mono ?_
  rintro e W1 ⟨hb1, hcase⟩
  rcases hcase with ⟨hne, rfl⟩ | ⟨h0, xb, rfl, hX⟩
  · have hq : (er != 0) = true := by simpa using hne
    have Her := Lib.hid (HX1.out hne)
    have Hout := Lib.hid (HO1.out (by rw [Her.out]; exact hne))
    clear hne HX1 HX2 HO1 HO2
    go_wp2_with fail
    go_ret2
    exact ⟨hb1, none, 0, by rw [Hout.out, Her.out]; rfl, .inl Hout.out⟩
  · subst h0
    replace HX2 := Lib.hid (HX2.out rfl)
    replace HC := Lib.hid (HC.out rfl)
    have hP1 := hP.below hb1
    have hR1 := hR.below hb1
    clear HF HX1 hP hR hE0 hl hB
    by_cases hout : percent < 1 ∨ 100 < percent
    · have Her := Lib.hid (HX2.out.trans (if_pos hout))
      have Hout := Lib.hid (HO1.out (by rw [Her.out]; decide))
      clear HO1 HO2 HX2
      go_wp2_with fail
      refine (outside_yes percent 1 100 _ hout).mono ?_
      rintro e w2 ⟨rfl, rfl⟩
      go_wp2_with fail
      go_ret2
      exact ⟨hb1, none, 0, by rw [Hout.out, Her.out]; rfl, .inl Hout.out⟩
    · have Her := Lib.hid (HX2.out.trans (if_neg hout))
      have Hout := Lib.hid (HO2.out Her.out)
      have he1 : 1 ≤ percent := by omega
      have he2 : percent ≤ 100 := by omega
      replace HC := Lib.hid (HC.out he1 he2)
      clear HO1 HO2 HX2 hout
      go_wp2_with fail
      refine (outside_no percent 1 100 _ (by omega) (by omega)).mono ?_
      rintro e w2 ⟨rfl, rfl⟩
      go_wp2_with fail
      go_loopg [14, 33] rs.length (fun gk v i wr => ∃ k : Nat, i = .int .i64 k ∧ k ≤ rs.length ∧ Hid (gk = rs.length - k) ∧ Own W1.heap.size 76 wr v (oddL l bs ps percent (rs.take k)) ∧ Below W1.heap.size W1 wr)
      case atStart => exact ⟨0, rfl, by omega, rfl, by rw [HL0.out]; exact Own.nil _ _ _, Below.refl _ _⟩
      obtain ⟨k, rfl, hk, hgk, hown, hb⟩ := hrel
      have hzr := hb.size
      by_cases hlt : k < rs.length
      · obtain ⟨qb, qoff, hqa, d0, d1⟩ := (hR1.below hb).1.reader hlt
        have hsk := (hR1.below hb).2 rs[k] (List.getElem_mem hlt)
        have HCk := Lib.hid (HC.out rs[k] (List.getElem_mem hlt) xb)
        have HBk := HBd.out rs[k]
        have HSt := Lib.hid (HSn.out k hlt)
        have hal := HLn.out k
        rw [List.length_take] at hal
        have Ha := Lib.hid hqa
        rw [hqa]
        clear hqa
        generalize rs[k] = r at *
        have hot : oddT l bs ps percent r = (r.key, (oddT l bs ps percent r).2.1, (oddT l bs ps percent r).2.2) := rfl
        unfold odd1 at HSt
        rw [hot] at HSt
        clear hot
        simp only at HSt
        generalize (oddT l bs ps percent r).2.1 = h at *
        generalize (oddT l bs ps percent r).2.2 = o at *
        obtain ⟨y1, y2, y3, y4⟩ := r
        unfold encReader at HCk
        simp only at d0 d1 hsk HCk HSt
        obtain ⟨n1, n2, n3, n4⟩ := HBk
        obtain ⟨acc2, ha2⟩ : ∃ a, oddL l bs ps percent (rs.take (k + 1)) = a := ⟨_, rfl⟩
        rw [ha2] at HSt
        have HA2 := Lib.hid ha2
        clear ha2
        generalize oddL l bs ps percent (rs.take k) = acc at *
        have hk1 : (0 : Int) ≤ (k : Int) := by omega
        have hk2 : (k : Int) < (rs.length : Int) := by omega
        have hbp : Below W1.heap.size W1 (wr.alloc (.cells #[.string y1, .slice y3 y2.length y4] 92)) := by (repeat' (first | exact Below.refl _ _ | assumption | refine Below.setCell ?_ ?_ _ | refine below_drewN ?_ _ | refine Below.drew ?_ | refine Below.alloc ?_ ?_ _ | (with_reducible refine Below.trans ?_ (Below.mono hb ?_)) | (with_reducible refine Below.trans ?_ (Below.mono hb0 ?_)) | (with_reducible refine Below.trans ?_ (Below.mono hb1 ?_)) | (with_reducible refine Below.trans ?_ (Below.mono hb2 ?_)) | (with_reducible refine Below.trans ?_ (Below.mono hb3 ?_)) | (with_reducible refine Below.trans ?_ (Below.mono hb4 ?_)) | (with_reducible refine Below.trans ?_ (Below.mono hb5 ?_)) | (with_reducible refine Below.trans ?_ (Below.mono hb6 ?_)) | (with_reducible refine Below.trans ?_ (Below.mono hb7 ?_)) | (with_reducible refine Below.trans ?_ (Below.mono hb8 ?_)) | (with_reducible refine Below.trans ?_ (Below.mono hb9 ?_)) | (with_reducible refine Below.trans ?_ (Below.mono hb10 ?_)) | (with_reducible refine Below.trans ?_ (Below.mono hb11 ?_)) | (with_reducible refine Below.trans ?_ (Below.mono hb12 ?_)) | (with_reducible refine Below.trans ?_ (Below.mono hb13 ?_)) | (with_reducible refine Below.trans ?_ (Below.mono hb14 ?_)) | (with_reducible refine Below.trans ?_ (Below.mono hb15 ?_)) | omega | (simp; done) | (simp; omega)))
        have hRd := Box.new wr 92 #[.string y1, .slice y3 y2.length y4]
        have hownp := hown.alloc (.cells #[.string y1, .slice y3 y2.length y4] 92)
        have hskp := hsk.alloc (.cells #[.string y1, .slice y3 y2.length y4] 92)
        have hRd_l := hRd.lt; have hRd_0 := hRd.cell 0; have hRd_1 := hRd.cell 1; simp at hRd_0 hRd_1
        clear hown hsk
        go_wp2_with fail
        refine (HCk.out _ (hX.below hbp) (hP1.below hbp) hskp).mono ?_
        rintro e w3 ⟨rfl, hb3⟩
        have hb3A := below_next hbp hb3
        have hz3 := hb3A.size
        have hbz : Below W1.heap.size W1 (w3.alloc (.cells #[.string y1, .int .i64 h, .int .i64 o] 76)) := by (repeat' (first | exact Below.refl _ _ | assumption | refine Below.setCell ?_ ?_ _ | refine below_drewN ?_ _ | refine Below.drew ?_ | refine Below.alloc ?_ ?_ _ | (with_reducible refine Below.trans ?_ (Below.mono hb ?_)) | (with_reducible refine Below.trans ?_ (Below.mono hb0 ?_)) | (with_reducible refine Below.trans ?_ (Below.mono hb1 ?_)) | (with_reducible refine Below.trans ?_ (Below.mono hb2 ?_)) | (with_reducible refine Below.trans ?_ (Below.mono hb3 ?_)) | (with_reducible refine Below.trans ?_ (Below.mono hb4 ?_)) | (with_reducible refine Below.trans ?_ (Below.mono hb5 ?_)) | (with_reducible refine Below.trans ?_ (Below.mono hb6 ?_)) | (with_reducible refine Below.trans ?_ (Below.mono hb7 ?_)) | (with_reducible refine Below.trans ?_ (Below.mono hb8 ?_)) | (with_reducible refine Below.trans ?_ (Below.mono hb9 ?_)) | (with_reducible refine Below.trans ?_ (Below.mono hb10 ?_)) | (with_reducible refine Below.trans ?_ (Below.mono hb11 ?_)) | (with_reducible refine Below.trans ?_ (Below.mono hb12 ?_)) | (with_reducible refine Below.trans ?_ (Below.mono hb13 ?_)) | (with_reducible refine Below.trans ?_ (Below.mono hb14 ?_)) | (with_reducible refine Below.trans ?_ (Below.mono hb15 ?_)) | omega | (simp; done) | (simp; omega)))
        have hownz := (hownp.below hb3).alloc (.cells #[.string y1, .int .i64 h, .int .i64 o] 76)
        have hOb := Box.new w3 76 #[.string y1, .int .i64 h, .int .i64 o]
        clear hRd hRd_l hRd_0 hRd_1 hownp hskp hbp hb3 hb3A
        have hw2 : IntKind.i64.wrap (2 * o) = 2 * o := IntWalk.i64_in _ (by omega)
        have hzz := hbz.size
        have hOb_l := hOb.lt; have hOb_0 := hOb.cell 0; have hOb_1 := hOb.cell 1; have hOb_2 := hOb.cell 2; simp at hOb_0 hOb_1 hOb_2
        by_cases hc1 : 0 < h
        · have HSt2 := Lib.hid (HSt.out.trans (congrArg (acc ++ ·) (if_pos (.inl hc1))))
          have hd1 : decide (0 < h) = true := decide_eq_true hc1
          clear hc1
          have hown1 := hownz.alloc (.cells #[.string y1, .int .i64 h, .int .i64 o] 76)
          have hbo := Box.newAt (w3.alloc (.cells #[.string y1, .int .i64 h, .int .i64 o] 76)) (w3.heap.size + 1) 76 #[.string y1, .int .i64 h, .int .i64 o] (by simp)
          have hba : Below W1.heap.size W1 ((w3.alloc (.cells #[.string y1, .int .i64 h, .int .i64 o] 76)).alloc (.cells #[.string y1, .int .i64 h, .int .i64 o] 76)) := hbz.alloc (by have := hbz.size; omega) _
          have Hol := Lib.hid hownz.lt
          clear hOb HSt hownz
          go_wp2_with (at_builtin; refine wpList_append_lie (α := Trio) rfl _ _ 65 rfl 76 32 (.agg #[.string ⟨#[]⟩, .int .i64 0, .int .i64 0]) Tryz.underlying65 Tryz.infoOdd rfl _ acc rfl hown1 (y1, h, o) _ rfl hbo (by omega) (by omega) (by simp; omega) ?_; intro g9 cap9 w9 hown9 hg9 hat9)
          have hb9 := hba.grown hg9 (by simp; omega) (fun j hj => (Hol.out j hj).1)
          rw [← HSt2.out] at hown9
          rw [← Ha.out]
          (try go_wp2_with fail)
          go_roundg (rs.length - (k + 1))
          case measure => have := hgk.out; omega
          case rel => exact ⟨k + 1, by go_num, by omega, rfl, by rw [HA2.out]; exact hown9, hb9⟩
        · have hd1 : decide (0 < h) = false := decide_eq_false hc1
          by_cases hc2 : (ps.length : Int) < 2 * o
          · have HSt2 := Lib.hid (HSt.out.trans (congrArg (acc ++ ·) (if_pos (.inr hc2))))
            have hd2 : decide ((ps.length : Int) < 2 * o) = true := decide_eq_true hc2
            clear hc1 hc2
            have hown1 := hownz.alloc (.cells #[.string y1, .int .i64 h, .int .i64 o] 76)
            have hbo := Box.newAt (w3.alloc (.cells #[.string y1, .int .i64 h, .int .i64 o] 76)) (w3.heap.size + 1) 76 #[.string y1, .int .i64 h, .int .i64 o] (by simp)
            have hba : Below W1.heap.size W1 ((w3.alloc (.cells #[.string y1, .int .i64 h, .int .i64 o] 76)).alloc (.cells #[.string y1, .int .i64 h, .int .i64 o] 76)) := hbz.alloc (by have := hbz.size; omega) _
            have Hol := Lib.hid hownz.lt
            clear hOb HSt hownz
            go_wp2_with (at_builtin; refine wpList_append_lie (α := Trio) rfl _ _ 65 rfl 76 32 (.agg #[.string ⟨#[]⟩, .int .i64 0, .int .i64 0]) Tryz.underlying65 Tryz.infoOdd rfl _ acc rfl hown1 (y1, h, o) _ rfl hbo (by omega) (by omega) (by simp; omega) ?_; intro g9 cap9 w9 hown9 hg9 hat9)
            have hb9 := hba.grown hg9 (by simp; omega) (fun j hj => (Hol.out j hj).1)
            rw [← HSt2.out] at hown9
            rw [← Ha.out]
            (try go_wp2_with fail)
            go_roundg (rs.length - (k + 1))
            case measure => have := hgk.out; omega
            case rel => exact ⟨k + 1, by go_num, by omega, rfl, by rw [HA2.out]; exact hown9, hb9⟩
          · have HSt2 := Lib.hid (HSt.out.trans (congrArg (acc ++ ·) (if_neg (fun e => e.elim hc1 hc2))))
            have hd2 : decide ((ps.length : Int) < 2 * o) = false := decide_eq_false hc2
            clear hc1 hc2 HSt
            go_wp2_with fail
            rw [← Ha.out]
            go_roundg (rs.length - (k + 1))
            case measure => have := hgk.out; omega
            case rel => exact ⟨k + 1, by go_num, by omega, rfl, by rw [HA2.out, HSt2.out, List.append_nil]; exact hownz, hbz⟩
      · obtain rfl : k = rs.length := by omega
        rw [Hfin.out, ← Hout.out] at hown
        obtain ⟨oa, oc, rfl, hoa, -, -⟩ := hown.sa
        go_wp2_with fail
        go_ret2
        exact ⟨below_next hb1 hb, oa, oc, by rw [Her.out] <;> rfl, hoa⟩
end Go.Proofs.YtpgofjjcmldhpaaGreatDoor
