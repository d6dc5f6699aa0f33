/- The best and the worst place of a paper: Range of the program. -/
import Derived.Test.YtgihommenknhoaaGreatDoorPlaceP
import Derived.Test.YtgihommenknhoaaGreatDoorDelete
import Derived.Test.YtgihommenknhoaaGreatDoorEq2
namespace Go.Proofs.YtgihommenknhoaaGreatDoor
open Go.RowKit Go.Sort
set_option linter.unusedVariables false
set_option linter.unusedSimpArgs false

theorem index_any (l : List ByteArray) (a : Option Addr) (cap : Nat) (x : ByteArray) (w : World) (h : SA w a l) (hlen : l.length ≤ 1000000000) :
    Calls Tryz.prog 56 #[.slice a l.length cap, .string x] w (fun e w' => e = .returned (.int .i64 (Lib.idxOfS l x)) ∧ w = w') := by
  rcases h with rfl | ⟨b, off, rfl, h⟩
  · exact (Tryz.slices_Index_string_empty a cap x w).mono fun e w' ⟨h1, h2⟩ => ⟨h1, h2.symm⟩
  · refine (Tryz.slices_Index_string b off l.length cap l x w (Nat.le_refl _) (by omega) ?_).mono fun e w' ⟨h1, h2⟩ => ⟨by rw [List.take_length] at h1; exact h1, h2.symm⟩
    intro j hj
    have := h j 0 l[j] (List.getElem?_eq_getElem hj) (by decide)
    rw [show off + (j * Cel.k ByteArray + 0) = off + j from by show off + (j * 1 + 0) = _; omega] at this
    rw [this, List.getD_eq_getElem?_getD, List.getElem?_eq_getElem hj]
    rfl
/-- The error of Range. -/
def rangeE (l : List Mark) (how : Int) (p : ByteArray) : Int := if marksFault l ≠ 0 then marksFault l else if ofP l p = [] then 8 else if how < 1 ∨ 5 < how then 4 else 0
def rangeV (l : List Mark) (how : Int) (p : ByteArray) : Int × Int := if rangeE l how p = 0 then rangeN l how p else (0, 0)
set_option maxHeartbeats 1000000 in
/-- The marks of a person are taken out of a list of its own. -/
theorem delP_any (base : Nat) (l : List Mark) (v : Value) (who : ByteArray) (B : Nat) (w : World) (hown : Own base 88 w v l) (hl : l.length ≤ 1000000) (hB : Box w B 9 #[.string who]) (hlt : B < base) (hbase : base ≤ w.heap.size) :
    Calls Tryz.prog 59 #[v, .func (.func 61) #[] #[.pointer (some ⟨B, 0, none⟩)]] w (fun e w' => ∃ a cap, e = .returned (.slice a (outM l who).length cap) ∧ SA w' a (outM l who) ∧ Below base w w') := by
  have hv := hown.lt
  have hc : ∀ W' x, x ∈ l → Kp (fun k => v.ownBlock = some k) w W' → Calls Tryz.prog 61 (#[.agg #[.string x.1, .string x.2.1, .int .i64 x.2.2]] ++ #[.pointer (some ⟨B, 0, none⟩)]) W' (Gives (.bool (decide (x.2.1 = who))) W') := fun W' x hx hk =>
    persEqP_any x who B W' ((hB.kp hk (fun h => by have := (hv _ h).1; omega)).cell 0)
  refine (deleteMark_any base l v 61 #[.pointer (some ⟨B, 0, none⟩)] (fun x => decide (x.2.1 = who)) w hown hl (enters_of Tryz.func61 (by kernel_rfl) rfl) hc).mono ?_
  rintro e w' ⟨a, cap, h1, h2, h3⟩
  exact ⟨a, cap, h1, h2, ⟨h3.os, h3.tape, h3.output, h3.size, fun k hk => h3.block k (by omega) (fun hh => by have := (hv k hh).1; omega)⟩⟩
set_option maxHeartbeats 1000000 in
/-- The marks of a person are taken out of a list of its own. -/
theorem delR_any (base : Nat) (l : List Mark) (v : Value) (who : ByteArray) (B : Nat) (w : World) (hown : Own base 88 w v l) (hl : l.length ≤ 1000000) (hB : Box w B 9 #[.string who]) (hlt : B < base) (hbase : base ≤ w.heap.size) :
    Calls Tryz.prog 59 #[v, .func (.func 66) #[] #[.pointer (some ⟨B, 0, none⟩)]] w (fun e w' => ∃ a cap, e = .returned (.slice a (outM l who).length cap) ∧ SA w' a (outM l who) ∧ Below base w w') := by
  have hv := hown.lt
  have hc : ∀ W' x, x ∈ l → Kp (fun k => v.ownBlock = some k) w W' → Calls Tryz.prog 66 (#[.agg #[.string x.1, .string x.2.1, .int .i64 x.2.2]] ++ #[.pointer (some ⟨B, 0, none⟩)]) W' (Gives (.bool (decide (x.2.1 = who))) W') := fun W' x hx hk =>
    persEqR_any x who B W' ((hB.kp hk (fun h => by have := (hv _ h).1; omega)).cell 0)
  refine (deleteMark_any base l v 66 #[.pointer (some ⟨B, 0, none⟩)] (fun x => decide (x.2.1 = who)) w hown hl (enters_of Tryz.func66 (by kernel_rfl) rfl) hc).mono ?_
  rintro e w' ⟨a, cap, h1, h2, h3⟩
  exact ⟨a, cap, h1, h2, ⟨h3.os, h3.tape, h3.output, h3.size, fun k hk => h3.block k (by omega) (fun hh => by have := (hv k hh).1; omega)⟩⟩
set_option maxRecDepth 100000 in
set_option maxHeartbeats 4000000 in
theorem range_place (l : List Mark) (a : Option Addr) (cap : Nat) (p : ByteArray) (how : Int) (w : World) (hs : SA w a l) (hf : a = none ∨ ∃ b off, a = some ⟨b, off, none⟩) (hl : l.length ≤ 400) (hks : ∀ x ∈ l, x.1.size ≤ 1000 ∧ x.2.1.size ≤ 1000) (hkn : (keysOf (fun x => x.1) l).length ≤ 19) :
    Calls Tryz.prog 10 #[.slice a l.length cap, .string p, .int .i64 how] w (Gives (.tuple #[.int .i64 (rangeV l how p).1, .int .i64 (rangeV l how p).2, .int .i64 (rangeE l how p)]) w) := by
  have HE1 : Hid (marksFault l ≠ 0 → rangeE l how p = marksFault l) := fun h => by unfold rangeE; rw [if_pos h]
  have HE2 : Hid (marksFault l = 0 → rangeE l how p = if ofP l p = [] then 8 else if how < 1 ∨ 5 < how then 4 else 0) := fun h => by unfold rangeE; rw [if_neg (by simpa using h)]
  have HV1 : Hid (rangeE l how p ≠ 0 → rangeV l how p = (0, 0)) := fun h => by unfold rangeV; rw [if_neg h]
  have HV2 : Hid (rangeE l how p = 0 → rangeV l how p = rangeN l how p) := fun h => by unfold rangeV; rw [if_pos h]
  generalize rangeE l how p = oe at *
  generalize rangeV l how p = rv at *
  obtain ⟨r1, r2⟩ := rv
  simp only
  have HS : Hid (∀ W, Below w.heap.size w W → SA W a l) := fun W h => hs.below h
  go_enter Tryz.func10, Tryz.ntmps10
  go_wp2_with fail
  refine (checked_any l a cap _ hs (by omega) hks).mono ?_
  rintro e w1 ⟨hb1, h1⟩
  rcases h1 with ⟨h0, rfl⟩ | ⟨h0, sb, rfl, hsh, hsb⟩
  · have h0' : (marksFault l != 0) = true := by simpa using h0
    have HE := Lib.hid (HE1.out h0)
    have hv := HV1.out (by rw [HE.out]; exact h0)
    simp only [Prod.mk.injEq] at hv
    obtain ⟨rfl, rfl⟩ := hv
    clear h0
    go_wp2_with fail
    exact bodyPost_ret (v := .tuple #[.int .i64 0, .int .i64 0, .int .i64 (marksFault l)]) (by simp only [results, Tryz.results10]; go_simp) rfl ⟨by rw [HE.out], hb1⟩
  · obtain ⟨b1, b2, base, a', cap', es1, es2, hst, hsa'⟩ := hsh
    have H0 := Lib.hid h0
    have HE := Lib.hid (HE2.out h0)
    have hpap := sel_len (fun x => x.1) p l
    have hlk := hst.one.look p
    have hval := hst.one.vals p
    obtain ⟨av, capv, hv, hsav, _, _⟩ := hval.sa
    rw [hv] at hlk
    have hS := hst.box
    clear h0 hval hv hsav
    by_cases hz : ofP l p = []
    · rw [if_pos hz] at HE
      obtain rfl := HE.out
      have hv := HV1.out (by decide)
      simp only [Prod.mk.injEq] at hv
      obtain ⟨rfl, rfl⟩ := hv
      have hz0 : (sel (fun x => x.1) p l).length = 0 := by rw [show sel (fun x => x.1) p l = [] from hz]; rfl
      rw [hz0] at hlk
      clear hz hz0
      have hS_l := hS.lt; have hS_0 := hS.cell 0; have hS_1 := hS.cell 1; have hS_2 := hS.cell 2; simp at hS_0 hS_1 hS_2
      go_wp2_with fail
      exact bodyPost_ret (v := .tuple #[.int .i64 0, .int .i64 0, .int .i64 8]) (by simp only [results, Tryz.results10]; go_simp) rfl ⟨rfl, hb1⟩
    · rw [if_neg hz] at HE
      have Hz := Lib.hid hz
      have hzl : 0 < (sel (fun x => x.1) p l).length := List.length_pos_iff.2 hz
      have hz0 : ((((sel (fun x => x.1) p l).length : Nat) : Int) == 0) = false := by simp; omega
      have HW := Lib.hid (fun W => isWay_any how W)
      clear hz
      by_cases hle : how < 1 ∨ 5 < how
      · rw [if_pos hle] at HE
        rw [show (!(decide (how < 1) || decide (5 < how))) = false by rcases hle with h | h <;> simp [h]] at HW
        obtain rfl := HE.out
        have hv := HV1.out (by decide)
        simp only [Prod.mk.injEq] at hv
        obtain ⟨rfl, rfl⟩ := hv
        clear hle
        have hS_l := hS.lt; have hS_0 := hS.cell 0; have hS_1 := hS.cell 1; have hS_2 := hS.cell 2; simp at hS_0 hS_1 hS_2
        go_wp2_with fail
        refine (HW.out _).mono ?_
        rintro e w2 ⟨rfl, rfl⟩
        go_wp2_with fail
        exact bodyPost_ret (v := .tuple #[.int .i64 0, .int .i64 0, .int .i64 4]) (by simp only [results, Tryz.results10]; go_simp) rfl ⟨rfl, hb1⟩
      · rw [if_neg hle] at HE
        rw [show (!(decide (how < 1) || decide (5 < how))) = true by simpa using hle] at HW
        obtain rfl := HE.out
        have hv := HV2.out rfl
        have HR : Hid (rangeN l how p = (r1, r2)) := hv.symm
        have hw1 : 1 ≤ how := by omega
        have hw2 : how ≤ 5 := by omega
        have HOA := Lib.hid (order_any sb b1 b2 base a' cap' l es1 es2 how w1 hst H0.out hl hks hw1 hw2 hkn)
        have hpb := placeL_bd l how p
        have hol : (orderL l how).length ≤ 19 := by unfold orderL; rw [isort_length]; exact hkn
        have HPd : Hid (Lib.idxOfS (orderL l how) p + 1 = placeL l how p) := rfl
        clear hle hv HE1 HE2 HV1 HV2 HE
        have hS_l := hS.lt; have hS_0 := hS.cell 0; have hS_1 := hS.cell 1; have hS_2 := hS.cell 2; simp at hS_0 hS_1 hS_2
        go_wp2_with fail
        refine (HW.out _).mono ?_
        rintro e w2 ⟨rfl, rfl⟩
        go_wp2_with fail
        refine HOA.out.mono ?_
        rintro e w3 ⟨v, rfl, hown, hb3⟩
        obtain ⟨ao, capo, rfl, hsao, _, _⟩ := hown.sa
        go_wp2_with fail
        refine (index_any _ ao capo p _ hsao (by omega)).mono ?_
        rintro e w4 ⟨rfl, rfl⟩
        clear hS_l hS_0 hS_1 hS_2
        have hst3 := hst.below hb3
        have hbw3 := below_next hb1 hb3
        have hS3 := hst3.box
        have hwr : IntKind.i64.wrap (Lib.idxOfS (orderL l how) p + 1) = placeL l how p := by rw [HPd.out]; exact IntWalk.i64_in _ (by omega)
        have hM := hst3.two.box
        have hz3 := hbw3.size
        clear hown hsao hlk hst hb3 HPd hS
        generalize orderL l how = ol at *
        generalize Lib.idxOfS ol p = ix at *
        generalize hpl : placeL l how p = pl at *
        have hS3_l := hS3.lt; have hS3_0 := hS3.cell 0; have hS3_1 := hS3.cell 1; have hS3_2 := hS3.cell 2; simp at hS3_0 hS3_1 hS3_2
        go_wp2_with ((refine wpList_range_box rfl _ 93 rfl 9 26 Tryz.underlying93 b2 es2 rfl hM ?_; intro o' hI))
        go_frame
        generalize hro : w3.heap.size = ri at *
        have hb5 := hbw3.alloc (by have := hbw3.size; exact this) o'
        have hz5 : ri < (w3.alloc o').heap.size := by simp; omega
        have Hperm : Hid (bwL (plW l how p) (pl, pl) (es2.map (·.1)) = (r1, r2)) := by
          show _ = _
          rw [← HR.out]
          unfold rangeN
          rw [hpl]
          refine bwL_perm _ ?_ _
          exact (List.perm_ext_iff_of_nodup hst3.two.nodup (keysS_rise _).nodup).2 fun k => by rw [hst3.two.keys]; exact (keysOf_mem _ l k).symm
        have Hpeople := Lib.hid hst3.two.keys
        have hbase2 : b2 < w3.heap.size := hM.lt
        clear hS3_l hS3_0 hS3_1 hS3_2
        generalize w3.alloc o' = W5 at *
        clear hst3 hS3 hbw3 hM hpl HR hro
        go_loopg [6, 7, 10, 11, 12] es2.length (fun gk v6 v7 _ _ _ wr => ∃ (left : List (ByteArray × Value)) (x1 x2 : Int), Hid (gk = left.length) ∧ IBox wr ri b2 es2 left ∧ Hid (∀ e ∈ left, e ∈ es2) ∧ v6 = .int .i64 x1 ∧ v7 = .int .i64 x2 ∧ Hid (bwL (plW l how p) (x1, x2) (left.map (·.1)) = (r1, r2)) ∧ Below w.heap.size w wr ∧ ri < wr.heap.size)
        case atStart => exact ⟨es2, pl, pl, rfl, hI, fun e he => he, rfl, rfl, Hperm, hb5, hz5⟩
        clear hI hb5 hz5 Hperm
        obtain ⟨left, x1, x2, hgk, hI, hsub, rfl, rfl, hbw, hb, hz⟩ := hrel
        have hzr := hb.size
        go_wp2_with ((refine wpList_next_box rfl _ rfl ri b2 es2 left rfl hI ?_ ?_))
        rotate_left 1
        · intro p0 kk v q w' hleft hI2 hent hg hsz
          have hb2 : Below w.heap.size w w' := hb.grown hg (by omega) (by rintro j hj; cases hj; omega)
          have hIk := hI2
          have hbN : Below w.heap.size w (w'.alloc (.cells #[.string kk] 9)) := hb2.alloc hb2.size _
          have hB := Box.new w' 9 #[.string kk]
          have hIN := hI2.alloc (.cells #[.string kk] 9)
          have hzN : ri < (w'.alloc (.cells #[.string kk] 9)).heap.size := by simp; omega
          have hzN1 : w'.heap.size < (w'.alloc (.cells #[.string kk] 9)).heap.size := by simp
          rw [hsz] at hB hzN1
          have Hsub3 : Hid (∀ e ∈ p0 ++ q, e ∈ es2) := fun e he => hsub.out e (by rw [hleft]; simp only [List.mem_append, List.mem_cons] at he ⊢; exact he.elim .inl (fun h => .inr (.inr h)))
          have hlen2 : (p0 ++ q).length + 1 = left.length := by rw [hleft]; simp; omega
          have Hstep : Hid (bwL (plW l how p) (bwS (plW l how p) (x1, x2) kk) ((p0 ++ q).map (·.1)) = (r1, r2)) := by
            show _ = _
            rw [← hbw.out, hleft]
            exact (bwL_mid _ _ _ _ _ _).symm
          have Hskip : Hid (ofP (outM l kk) p = [] → bwS (plW l how p) (x1, x2) kk = (x1, x2)) := fun h => bw_skip l how p kk (x1, x2) h
          have Htake : Hid (ofP (outM l kk) p ≠ [] → bwS (plW l how p) (x1, x2) kk = (min x1 (placeL (outM l kk) how p), max x2 (placeL (outM l kk) how p))) := fun h => bw_take l how p kk (x1, x2) h
          generalize p0 ++ q = pq at *
          generalize plW l how p = pf at *
          have hcl := Lib.hid (cloneMark_any l a cap _ (HS.out _ hbN) hf (by omega))
          clear hleft hsub hbw hI hI2 hIk hb
          go_upto_region 13 with (fail)
          generalize w'.alloc (.cells #[.string kk] 9) = wN at *
          clear hent
          go_wp2_with fail
          refine hcl.out.mono ?_
          rintro e wA ⟨vc, rfl, hownc, hbA⟩
          obtain ⟨ac, capc, rfl, hsac, _, _⟩ := hownc.form
          clear hsac
          have hdel := Lib.hid (delP_any wN.heap.size l (.slice ac l.length capc) kk wr.heap.size wA hownc (by omega) (hB.below hbA) (by omega) hbA.size)
          clear hownc hcl
          go_wp2_with fail
          refine hdel.out.mono ?_
          rintro e wB ⟨a4, cap4, rfl, hsa4, hkB⟩
          have hbB : Below wN.heap.size wN wB := hbA.trans hkB
          have h0k := Lib.hid (outM_fault H0.out kk)
          have hlk0 : (outM l kk).length ≤ 400 := Nat.le_trans (outM_len l kk) hl
          have Hksk : Hid (∀ x ∈ outM l kk, x.1.size ≤ 1000 ∧ x.2.1.size ≤ 1000) := fun x hx => hks x (outM_mem hx)
          have hknk := outM_keys hkn kk
          have hplb := placeL_bd (outM l kk) how p
          have hpll := sel_len (fun x => x.1) p (outM l kk)
          clear hbA hkB hdel hB
          generalize outM l kk = lk at *
          go_wp2_with fail
          refine (sheetOf_any lk a4 cap4 wB hsa4 (by omega)).mono ?_
          rintro e wC ⟨esA, esB, rfl, hstC, hbC0⟩
          have hbC := below_next hbB hbC0
          clear hsa4 hbB hbC0
          generalize wB.heap.size + 1 + 1 + 1 = baseC at *
          generalize wB.heap.size + 1 + 1 = sbC at *
          generalize wB.heap.size + 1 = bC2 at *
          generalize wB.heap.size = bC1 at *
          have hlkC := hstC.one.look p
          have hvalC := hstC.one.vals p
          obtain ⟨av2, capv2, hv2, hsav2, _, _⟩ := hvalC.sa
          rw [hv2] at hlkC
          have hSC := hstC.box
          have hbwC := hbN.trans (hbC.mono hbN.size)
          have hIC := hIN.below hbC
          have hzC := hbC.size
          clear hvalC hv2 hsav2
          by_cases hzk : ofP lk p = []
          · have hz0k : (sel (fun x => x.1) p lk).length = 0 := by rw [show sel (fun x => x.1) p lk = [] from hzk]; rfl
            have Hs := Lib.hid (Hskip.out hzk)
            rw [hz0k] at hlkC
            clear hzk hz0k hpll
            have hSC_l := hSC.lt; have hSC_0 := hSC.cell 0; have hSC_1 := hSC.cell 1; have hSC_2 := hSC.cell 2; simp at hSC_0 hSC_1 hSC_2
            go_wp2_with fail
            go_roundg pq.length
            case measure => have := hgk.out; omega
            case rel => exact ⟨pq, x1, x2, rfl, hIC, Hsub3, rfl, rfl, by show _ = _; rw [← Hs.out]; exact Hstep.out, hbwC, by omega⟩
          · have hz0k : ((((sel (fun x => x.1) p lk).length : Nat) : Int) == 0) = false := by
              have := List.length_pos_iff.2 hzk
              have h2 : 0 < (sel (fun x => x.1) p lk).length := this
              simp; omega
            have Hs := Lib.hid (Htake.out hzk)
            have HOB := Lib.hid (order_any sbC bC1 bC2 baseC a4 cap4 lk esA esB how wC hstC h0k.out hlk0 Hksk.out hw1 hw2 hknk)
            have hok2 : (orderL lk how).length ≤ 19 := by unfold orderL; rw [isort_length]; exact hknk
            have hwk : IntKind.i64.wrap (Lib.idxOfS (orderL lk how) p + 1) = placeL lk how p := IntWalk.i64_in _ (by unfold placeL at hplb; omega)
            clear hzk hpll hstC
            generalize placeL lk how p = pk at *
            generalize orderL lk how = olk at *
            have hSC_l := hSC.lt; have hSC_0 := hSC.cell 0; have hSC_1 := hSC.cell 1; have hSC_2 := hSC.cell 2; simp at hSC_0 hSC_1 hSC_2
            go_wp2_with fail
            refine HOB.out.mono ?_
            rintro e wD ⟨vD, rfl, hownD, hbD⟩
            obtain ⟨aD, capD, rfl, hsaD, _, _⟩ := hownD.sa
            have hbwD := below_next hbwC hbD
            have hID := hIC.below hbD
            have hzD := hbD.size
            go_wp2_with fail
            refine (index_any _ aD capD p _ hsaD (by omega)).mono ?_
            rintro e wE ⟨rfl, rfl⟩
            clear hownD hsaD hIC hbwC HOB hbD
            generalize Lib.idxOfS olk p = ixk at *
            go_wp2_with fail
            go_roundg pq.length
            case measure => have := hgk.out; omega
            case rel => exact ⟨pq, min x1 pk, max x2 pk, rfl, hID, Hsub3, rfl, rfl, by show _ = _; rw [← Hs.out]; exact Hstep.out, hbwD, by omega⟩
        intro hnil
        have hrr := hbw.out
        rw [hnil] at hrr
        have hrr' : (x1, x2) = (r1, r2) := hrr
        simp only [Prod.mk.injEq] at hrr'
        obtain ⟨rfl, rfl⟩ := hrr'
        clear hrr hnil hI
        go_wp2_with fail
        exact bodyPost_ret (v := .tuple #[.int .i64 x1, .int .i64 x2, .int .i64 0]) (by simp only [results, Tryz.results10]; go_simp) rfl ⟨rfl, hb⟩
end Go.Proofs.YtgihommenknhoaaGreatDoor
