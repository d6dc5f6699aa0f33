/- Arrivals by papers: of the program. -/
import Derived.Test.YtifflpilnpcmoaaGreatDoorByP
import Derived.Test.YtifflpilnpcmoaaGreatDoorCompA
import Derived.Test.YtifflpilnpcmoaaGreatDoorArrive6
import Derived.Test.YtifflpilnpcmoaaGreatDoorSortA
import Derived.Deep.Upon
namespace Go.Proofs.YtifflpilnpcmoaaGreatDoor
open Go.RowKit
set_option linter.unusedVariables false
set_option linter.unusedSimpArgs false

def cntB (o a f : Int) (s : List Skill) (x : Arv) : Bool := decide (cntN o a f s x.2.1 x.2.2.1 x.2.2.2.1 = 1)
theorem SA.keepB {α : Type} [Cel α] {w w' : World} {a : Option Addr} {l : List α} (h : SA w a l) (hk : ∀ x : Addr, a = some x → w'.heap[x.block]? = w.heap[x.block]?) : SA w' a l := by
  rcases h with h | ⟨b, off, rfl, h⟩
  · exact .inl h
  · exact .inr ⟨b, off, rfl, h.same (hk _ rfl)⟩
theorem dedL_len {α : Type} [DecidableEq α] (l : List α) : (dedL l).length ≤ l.length := dedTo_len l l.length
theorem ownL_len (p : Arv → Bool) (id : ByteArray) (l : List Arv) : (ownL p id l).length ≤ l.length := List.length_filter_le _ _
/-- append(s, nil...) in a region that draws its order. -/
theorem step_append_nothing {w : World} {ops : Array Oper} {o : Oper} {a : Act} {K : Act → World → Prop} {Q : Exit → Act → World → Prop} {E : Prop} (hgd : o.guard = none) (s x : Operand)
    (ho : o.op = .call { callee := .builtin .append, args := #[s, x], argTypes := #[30, 30] }) (av : Option Addr) (n c : Nat) (h : n ≤ c) (hs : a.eval s = .slice av n c) (hx : a.eval x = .slice none 0 0)
    (hK : K (a.put o.dst (.slice av n c)) w) : if Region.wanted o (yielded ops a.tmps) = true then Oper.wp Tryz.prog o a w K Q else E := by
  have hw : Region.wanted o (yielded ops a.tmps) = true := by simp [Region.wanted, hgd]
  rw [if_pos hw]
  obtain ⟨i0, hi, hz0, hz1, hz2⟩ := info_parts Tryz.infoArv
  have hr := run_append_nothing w 30 30 o.type 63 i0 Tryz.underlying30 hi av n c h _ (Src.ofNil w Tryz.underlying30 0)
  unfold Oper.wp execOp
  simp only [ho, resolve, invoke, builtin, Sem.run_bind, Sem.run_pure, Result.andThen_ok, List.map_toArray, List.map_cons, List.map_nil, hs, hx, hr]
  exact hK
set_option maxRecDepth 100000 in
set_option maxHeartbeats 8000000 in
theorem byPaper_any (o a f : Int) (s : List Skill) (a3 : Option Addr) (c3 : Nat) (l : List Arv) (la : Option Addr) (cap : Nat) (w : World) (hs : SA w a3 s) (hsl : s.length ≤ 1000000) (hbd : ∀ x ∈ s, 0 ≤ x.2 ∧ x.2 ≤ 10000000) (ha : 0 ≤ a) (ha2 : a ≤ 10000000) (hf : 0 ≤ f) (hf2 : f ≤ 10000000) (hl : SA w la l) (hlf : la = none ∨ ∃ b off, la = some ⟨b, off, none⟩) (hll : l.length ≤ 100000) :
    Calls Tryz.prog 41 #[callAgg o a f s a3 c3, .slice la l.length cap] w (fun e w' => ∃ b base es, e = .returned (.map (some b)) ∧ w.heap.size ≤ b ∧ b < base ∧ ASl w' b base ((dedL (sortC cmpA l)).map (·.1)) (fun p => ownL (cntB o a f s) p (dedL (sortC cmpA l))) es ∧ Below w.heap.size w w') := by
  have HCn := Lib.hid (fun (p : ByteArray) (t k : Int) (r x : ByteArray) W (h : SA W a3 s) => counts_any o a f s a3 c3 p t k r x W h hsl hbd ha ha2 hf hf2)
  have HcB := Lib.hid (fun x => (show cntB o a f s x = decide (cntN o a f s x.2.1 x.2.2.1 x.2.2.2.1 = 1) from rfl))
  have hs2l : (sortC cmpA l).length ≤ 100000000 := by rw [sortC_len totC_A]; omega
  have hLl : (dedL (sortC cmpA l)).length ≤ 100000 := by have := dedL_len (sortC cmpA l); rw [sortC_len totC_A] at this; omega
  generalize cntB o a f s = cB at *
  have hmm := @run_makeMap Tryz.prog
  have HSo := Lib.hid (fun W v base (h : Own base 63 W v l) => sortArr_any base l v W 59 (enters_of Tryz.func59 (by kernel_rfl) rfl) (fun x y W => compareA_any x y W) h (by omega))
  have HCo := Lib.hid (fun W v base (h : Own base 63 W v (sortC cmpA l)) => compactArr_any base (sortC cmpA l) v W h hs2l)
  generalize sortC cmpA l = l2 at *
  generalize dedL l2 = L at *
  unfold callAgg at *
  have hC0 := Box.new w 28 #[.int .i64 o, .int .i64 a, .int .i64 f, .slice a3 s.length c3]
  go_enter Tryz.func41, Tryz.ntmps41
  go_wp2_with fail
  refine (cloneArr_any l la cap _ (hl.alloc _) hlf (by omega)).mono ?_
  rintro e w1 ⟨v1, rfl, hown1, hb1⟩
  have hz1 := hb1.size
  simp at hz1
  have hbw1 : Below w.heap.size w w1 := by (repeat' (first | exact Below.refl _ _ | assumption | refine Below.setCell ?_ ?_ _ | refine below_drewN ?_ _ | refine Below.drew ?_ | refine Below.alloc ?_ ?_ _ | (with_reducible refine Below.trans ?_ (Below.mono hb ?_)) | (with_reducible refine Below.trans ?_ (Below.mono hb0 ?_)) | (with_reducible refine Below.trans ?_ (Below.mono hb1 ?_)) | (with_reducible refine Below.trans ?_ (Below.mono hb2 ?_)) | (with_reducible refine Below.trans ?_ (Below.mono hb3 ?_)) | (with_reducible refine Below.trans ?_ (Below.mono hb4 ?_)) | (with_reducible refine Below.trans ?_ (Below.mono hb5 ?_)) | (with_reducible refine Below.trans ?_ (Below.mono hb6 ?_)) | (with_reducible refine Below.trans ?_ (Below.mono hb7 ?_)) | (with_reducible refine Below.trans ?_ (Below.mono hb8 ?_)) | (with_reducible refine Below.trans ?_ (Below.mono hb9 ?_)) | (with_reducible refine Below.trans ?_ (Below.mono hb10 ?_)) | (with_reducible refine Below.trans ?_ (Below.mono hb11 ?_)) | (with_reducible refine Below.trans ?_ (Below.mono hb12 ?_)) | (with_reducible refine Below.trans ?_ (Below.mono hb13 ?_)) | (with_reducible refine Below.trans ?_ (Below.mono hb14 ?_)) | (with_reducible refine Below.trans ?_ (Below.mono hb15 ?_)) | omega | (simp; done) | (simp; omega)))
  have hC1 := hC0.below hb1
  go_wp2_with fail
  refine (HSo.out _ _ _ hown1).mono ?_
  rintro e w2 ⟨rfl, hown2, hk2⟩
  have hz2 := hk2.size
  have hv1 : ∀ j, v1.ownBlock = some j → w.heap.size + 1 ≤ j ∧ j < w2.heap.size := fun j hj => by
    have := (hown1.lt j hj).1
    simp at this
    exact ⟨this, (hown2.lt j hj).2⟩
  have hbw2 : Below w.heap.size w w2 := belowKp hbw1 hk2 (fun j hj => by have := (hv1 j hj).1; omega) (by omega)
  have hC2 := hC1.kp hk2 (fun e => by have := (hv1 _ e).1; omega)
  have hM0 : ASl (w2.alloc (.map #[] 0)) w2.heap.size (w2.heap.size + 1) [] (fun _ => []) [] := ASl.new w2 _
  have hC3a := hC2.alloc (.map #[] 0)
  have hbw3a : Below w.heap.size w (w2.alloc (.map #[] 0)) := hbw2.alloc (by omega) _
  clear hC0 hC1 hown1 hbw1 hb1
  go_wp2_with fail
  refine (HCo.out _ _ _ (hown2.alloc _)).mono ?_
  rintro e w3 ⟨a4, cap4, rfl, hsa4, hk4, hab4, -⟩
  have hz3 := hk4.size
  simp at hz3
  have hM3 : ASl w3 w2.heap.size (w2.heap.size + 1) ((L.take 0).map (·.1)) (fun p => ownL cB p (L.take 0)) [] := by
    refine hM0.keep ?_
    rintro j (rfl | ⟨p, hp⟩)
    · exact hk4.block _ (by simp) (fun e => by have := (hv1 _ e).2; omega)
    · cases hp
  have hC3 := hC3a.kp hk4 (fun e => by have := (hv1 _ e).1; omega)
  have hbw3 : Below w.heap.size w w3 := belowKp hbw3a hk4 (fun j hj => by have := (hv1 j hj).1; omega) (by simp; omega)
  have Ha4 : Hid (∀ x : Addr, a4 = some x → x.block < w2.heap.size) := fun x hx => (hv1 _ (hab4 x hx)).2
  have Hs := Lib.hid (fun W (h : Below w.heap.size w W) => hs.below h)
  have Hbw := Lib.hid hbw3
  have Hsa := Lib.hid hsa4
  have HC3 := Lib.hid hC3
  clear hM0 hC3a hbw3a hC2 hbw2 hk2 hown2 hv1 hk4 hab4 hsa4 hs hl hC3 HSo HCo
  go_wp2_with fail
  go_loopg [16] L.length (fun gk i wr => ∃ (k : Nat) (es : List (ByteArray × Value)), i = .int .i64 k ∧ k ≤ L.length ∧ Hid (gk = L.length - k) ∧ ASl wr w2.heap.size (w2.heap.size + 1) ((L.take k).map (·.1)) (fun p => ownL cB p (L.take k)) es ∧ Below w2.heap.size w3 wr)
  case atStart => exact ⟨0, [], rfl, by omega, rfl, hM3, Below.refl _ _⟩
  case round =>
    clear hM3
    obtain ⟨k, es, rfl, hk, hgk, hA, hbr⟩ := hrel
    have hzr := hbr.size
    have hbwr : Below w.heap.size w wr := hbw3.trans (hbr.mono (by omega))
    have hsa : SA wr a4 L := Hsa.out.keepB (fun x hx => hbr.block _ (Ha4.out x hx))
    by_cases hlt : k < L.length
    · obtain ⟨bb, off, hae, d0, d1, d2, d3, d4⟩ := hsa.arv hlt
      have Hae := Lib.hid hae
      have hC : Box wr w.heap.size 28 #[.int .i64 o, .int .i64 a, .int .i64 f, .slice a3 s.length c3] := HC3.out.same (hbr.block _ (by omega))
      have HK : Hid ((L.take (k + 1)).map (·.1) = (L.take k).map (·.1) ++ [L[k].1]) := by
        show _ = _
        rw [List.take_succ_eq_append_getElem hlt, List.map_append]; rfl
      have HF : Hid (∀ p, ownL cB p (L.take (k + 1)) = if L[k].1 = p ∧ cB L[k] = true then ownL cB p (L.take k) ++ [L[k]] else ownL cB p (L.take k)) := fun p => by
        rw [List.take_succ_eq_append_getElem hlt, ownL_snoc]
      have Hln : Hid (∀ p, (ownL cB p (L.take k)).length ≤ 100000) := fun p => Nat.le_trans (ownL_len _ _ _) (by rw [List.length_take]; omega)
      rw [hae]
      clear hsa hae
      generalize L[k] = x at *
      obtain ⟨x1, x2, x3, x4, x5⟩ := x
      simp only at d0 d1 d2 d3 d4 HK
      obtain ⟨av, cv, hv, -, -, hcv⟩ := (hA.vals x1).form
      have Hv := Lib.hid hv
      have Hvl5 : Hid (∀ j, (valOf (mput es x1 (valOf es x1)) x1).ownBlock = some j → w2.heap.size + 1 ≤ j ∧ j < wr.heap.size) := by
        show ∀ j, _
        rw [valOf_touch]
        exact fun j hj => hA.blk ⟨_, hj⟩
      have hAa := hA.alloc (.cells #[.string x1, .int .i64 x2, .int .i64 x3, .string x4, .string x5] 63)
      have hT := Box.new wr 63 #[.string x1, .int .i64 x2, .int .i64 x3, .string x4, .string x5]
      have hCa := hC.alloc (.cells #[.string x1, .int .i64 x2, .int .i64 x3, .string x4, .string x5] 63)
      have hba : Below w2.heap.size w3 (wr.alloc (.cells #[.string x1, .int .i64 x2, .int .i64 x3, .string x4, .string x5] 63)) := hbr.alloc (by omega) _
      have hlk := hAa.drew.look x1
      rw [hv] at hlk
      have hMm := hAa.drew.box
      have hTc := hT.cell 0
      clear hv hA hC hbr
      obtain ⟨n0, hn0⟩ : ∃ n0, (ownL cB x1 (L.take k)).length = n0 := ⟨_, rfl⟩
      rw [hn0] at hlk hcv Hv
      clear hn0
      go_upto_region 7 with (fail)
      refine wp_region_held_drew (S := (fun wx => wx.cell? ⟨wr.heap.size, 0, none⟩ = some (.string x1))) (by kernel_rfl) ?hS (fun hHeld => ?_)
      case hS => exact hTc
      refine rtake (i := 0) (d := (some 20)) (v := ?_) rfl (by kernel_rfl) (by kernel_rfl) (by kernel_rfl) (by kernel_rfl) (fun _ _ _ h => h) (by kernel_rfl) (by assumption) ?_ ?_
      rotate_left 1
      · (intro wI hSI; (try dsimp only at hSI); go_simp; (try with_reducible rfl))
      simp only [Act.put, List.setIfInBounds_toArray, List.set_cons_zero, List.set_cons_succ]
      refine rtake (i := 1) (d := (some 21)) (v := ?_) rfl (by kernel_rfl) (by kernel_rfl) (by kernel_rfl) (by kernel_rfl) (fun _ _ _ h => h) (by kernel_rfl) (by assumption) ?_ ?_
      rotate_left 1
      · (intro wI hSI; (try dsimp only at hSI); go_simp; (try with_reducible rfl))
      simp only [Act.put, List.setIfInBounds_toArray, List.set_cons_zero, List.set_cons_succ]
      refine rtake (i := 2) (d := (some 22)) (v := ?_) rfl (by kernel_rfl) (by kernel_rfl) (by kernel_rfl) (by kernel_rfl) (fun _ _ _ h => h) (by kernel_rfl) (by assumption) ?_ ?_
      rotate_left 1
      · (intro wI hSI; (try dsimp only at hSI); go_simp; (try with_reducible rfl))
      simp only [Act.put, List.setIfInBounds_toArray, List.set_cons_zero, List.set_cons_succ]
      refine rtake (i := 3) (d := (some 23)) (v := ?_) rfl (by kernel_rfl) (by kernel_rfl) (by kernel_rfl) (by kernel_rfl) (fun _ _ _ h => h) (by kernel_rfl) (by assumption) ?_ ?_
      rotate_left 1
      · (intro wI hSI; (try dsimp only at hSI); go_simp; (try with_reducible rfl))
      simp only [Act.put, List.setIfInBounds_toArray, List.set_cons_zero, List.set_cons_succ]
      refine rtake (i := 4) (d := (some 24)) (v := ?_) rfl (by kernel_rfl) (by kernel_rfl) (by kernel_rfl) (by kernel_rfl) (fun _ _ _ h => h) (by kernel_rfl) (by assumption) ?_ ?_
      rotate_left 1
      · (intro wI hSI; (try dsimp only at hSI); go_simp; (try with_reducible rfl))
      simp only [Act.put, List.setIfInBounds_toArray, List.set_cons_zero, List.set_cons_succ]
      refine rtake (i := 5) (d := (some 25)) (v := ?_) rfl (by kernel_rfl) (by kernel_rfl) (by kernel_rfl) (by kernel_rfl) (fun _ _ _ h => h) (by kernel_rfl) (by assumption) ?_ ?_
      rotate_left 1
      · (intro wI hSI; (try dsimp only at hSI); go_simp; (try with_reducible rfl))
      simp only [Act.put, List.setIfInBounds_toArray, List.set_cons_zero, List.set_cons_succ]
      refine rcall (i := 6) (d := (some 26)) (by kernel_rfl) rfl (by kernel_rfl) (fun K hK => ?_)
      go_simp
      skip
      refine hK.out _ _ ?hS (fun hHeld => ?_)
      case hS => exact hHeld
      clear hK K
      simp only [Act.put, List.setIfInBounds_toArray, List.set_cons_zero, List.set_cons_succ]
      refine rcall (i := 7) (d := (some 27)) (by kernel_rfl) rfl (by kernel_rfl) (fun K hK => ?_)
      refine step_append_nothing (by rfl) _ _ (by rfl) av n0 cv hcv (by rfl) (by rfl) ?_
      refine hK.out _ _ ?hS (fun hHeld => ?_)
      case hS => exact hHeld
      clear hK K
      simp only [Act.put, List.setIfInBounds_toArray, List.set_cons_zero, List.set_cons_succ]
      refine rcall (i := 8) (d := none) (by kernel_rfl) rfl (by kernel_rfl) (fun K hK => ?_)
      refine step_mapUpdate_box rfl _ _ _ _ rfl _ _ Tryz.underlying77 Tryz.underlying9 w2.heap.size _ rfl hMm x1 rfl (.slice av n0 cv) rfl ?_; intro W5 hM5 hg5 hs5
      refine hK.out undef _ ?hS (fun hHeld => ?_)
      case hS => exact (hT.drew.grown hg5 (by intro e; have := Option.some.inj e; omega)).cell 0
      clear hK K
      simp only [Act.put, List.setIfInBounds_toArray, List.set_cons_zero, List.set_cons_succ]
      refine wpAnyH_done (by kernel_rfl) ?_ _
      have hT5 := hT.drew.grown hg5 (by intro e; have := Option.some.inj e; omega)
      have hC5 := hCa.drew.grown hg5 (by intro e; have := Option.some.inj e; omega)
      have hb5 : Below w2.heap.size w3 W5 := Below.grown hba.drew hg5 (by simp; omega) (by rintro j hj; cases hj; omega)
      rw [← Hv.out] at hM5
      have hA5 := hAa.drew.touch x1 hM5 hg5 (by omega)
      rw [← HK.out] at hA5
      have hmem : x1 ∈ (L.take (k + 1)).map (·.1) := by rw [HK.out]; simp
      have Hmem := Lib.hid hmem
      clear hHeld hlk hMm hTc hcv Hv hAa hT hCa hba hM5 hg5 hmem HK
      generalize mput es x1 (valOf es x1) = es5 at *
      have hbW5 : Below w.heap.size w W5 := Hbw.out.trans (hb5.mono (by omega))
      have hs5a := Hs.out W5 hbW5
      have hT5_l := hT5.lt; have hT5_0 := hT5.cell 0; have hT5_1 := hT5.cell 1; have hT5_2 := hT5.cell 2; have hT5_3 := hT5.cell 3; have hT5_4 := hT5.cell 4; simp at hT5_0 hT5_1 hT5_2 hT5_3 hT5_4
      have hC5_l := hC5.lt; have hC5_0 := hC5.cell 0; have hC5_1 := hC5.cell 1; have hC5_2 := hC5.cell 2; have hC5_3 := hC5.cell 3; simp at hC5_0 hC5_1 hC5_2 hC5_3
      go_wp2_with fail
      refine (HCn.out x1 x2 x3 x4 x5 _ hs5a).mono ?_
      rintro e w6 ⟨rfl, hb6⟩
      have hA6 := hA5.below hb6
      have hT6 := hT5.below hb6
      have hb56 : Below w2.heap.size w3 w6 := hb5.trans (hb6.mono (by have := hb5.size; omega))
      have hz6 := hb6.size
      clear hT5_l hT5_0 hT5_1 hT5_2 hT5_3 hT5_4
      clear hC5_l hC5_0 hC5_1 hC5_2 hC5_3
      have hcBx := HcB.out (x1, x2, x3, x4, x5)
      simp only at hcBx
      have HcBx := Lib.hid hcBx
      have hzT := hT5.lt
      have hzT0 : w2.heap.size < wr.heap.size := by omega
      clear hT5 hC5 hA5 hb5 hb6 hbW5 hs5a hcBx
      generalize cntN o a f s x2 x3 x4 = cn at *
      by_cases hcn : cn = 1
      · subst hcn
        have Hfn : Hid ((fun p => ownL cB p (L.take (k + 1))) = fun p => if x1 = p then ownL cB p (L.take k) ++ [(x1, x2, x3, x4, x5)] else ownL cB p (L.take k)) := by
          refine funext fun p => ?_
          rw [HF.out, HcBx.out]
          simp
        have hown := ((hA6.vals x1).alloc (.cells #[.string x1, .int .i64 x2, .int .i64 x3, .string x4, .string x5] 63)).drew
        have hlk := hA6.drew.look x1
        have hlk2 := (hA6.alloc (.cells #[.string x1, .int .i64 x2, .int .i64 x3, .string x4, .string x5] 63)).drew.look x1
        have hMb := (hA6.box.alloc (.cells #[.string x1, .int .i64 x2, .int .i64 x3, .string x4, .string x5] 63)).drew
        have HStep := Lib.hid (fun (W1 W2 : World) (g cap : Nat) => ((hA6.alloc (.cells #[.string x1, .int .i64 x2, .int .i64 x3, .string x4, .string x5] 63)).drew).step (w1 := W1) (w2 := W2) (g := g) (cap := cap) x1 (x1, x2, x3, x4, x5) Hmem.out)
        have hln := Hln.out x1
        clear hA6 HF Hmem HcBx Hln
        generalize valOf es5 x1 = v at *
        obtain ⟨ls, hls⟩ : ∃ ls, ownL cB x1 (L.take k) = ls := ⟨_, rfl⟩
        rw [hls] at hown HStep hln
        clear hls
        have hvT : some wr.heap.size ≠ v.ownBlock := fun h => by have := (Hvl5.out _ h.symm).2; omega
        have hvb : some w2.heap.size ≠ v.ownBlock := fun h => by have := (Hvl5.out _ h.symm).1; omega
        have HvT := Lib.hid hvT
        have Hvb := Lib.hid hvb
        clear hvT hvb
        have hT6_l := hT6.lt; have hT6_0 := hT6.cell 0; have hT6_1 := hT6.cell 1; have hT6_2 := hT6.cell 2; have hT6_3 := hT6.cell 3; have hT6_4 := hT6.cell 4; simp at hT6_0 hT6_1 hT6_2 hT6_3 hT6_4
        go_upto_region 9 with (fail)
        refine wp_region_held_drew (S := (fun wx => wx.cell? ⟨wr.heap.size, 0, none⟩ = some (.string x1) ∧ wx.cell? ⟨wr.heap.size, 1, none⟩ = some (.int .i64 x2) ∧ wx.cell? ⟨wr.heap.size, 2, none⟩ = some (.int .i64 x3) ∧ wx.cell? ⟨wr.heap.size, 3, none⟩ = some (.string x4) ∧ wx.cell? ⟨wr.heap.size, 4, none⟩ = some (.string x5))) (by kernel_rfl) ?hS (fun hHeld => ?_)
        case hS => exact ⟨hT6_0, hT6_1, hT6_2, hT6_3, hT6_4⟩
        refine rtake (i := 0) (d := (some 32)) (v := ?_) rfl (by kernel_rfl) (by kernel_rfl) (by kernel_rfl) (by kernel_rfl) (fun _ _ _ h => h) (by kernel_rfl) (by assumption) ?_ ?_
        rotate_left 1
        · (intro wI hSI; (try dsimp only at hSI); go_simp; (try with_reducible rfl))
        simp only [Act.put, List.setIfInBounds_toArray, List.set_cons_zero, List.set_cons_succ]
        refine rtake (i := 1) (d := (some 33)) (v := ?_) rfl (by kernel_rfl) (by kernel_rfl) (by kernel_rfl) (by kernel_rfl) (fun _ _ _ h => h) (by kernel_rfl) (by assumption) ?_ ?_
        rotate_left 1
        · (intro wI hSI; (try dsimp only at hSI); go_simp; (try with_reducible rfl))
        simp only [Act.put, List.setIfInBounds_toArray, List.set_cons_zero, List.set_cons_succ]
        refine rtake (i := 2) (d := (some 34)) (v := ?_) rfl (by kernel_rfl) (by kernel_rfl) (by kernel_rfl) (by kernel_rfl) (fun _ _ _ h => h) (by kernel_rfl) (by assumption) ?_ ?_
        rotate_left 1
        · (intro wI hSI; (try dsimp only at hSI); go_simp; (try with_reducible rfl))
        simp only [Act.put, List.setIfInBounds_toArray, List.set_cons_zero, List.set_cons_succ]
        refine rtake (i := 3) (d := (some 35)) (v := ?_) rfl (by kernel_rfl) (by kernel_rfl) (by kernel_rfl) (by kernel_rfl) (fun _ _ _ h => h) (by kernel_rfl) (by assumption) ?_ ?_
        rotate_left 1
        · (intro wI hSI; (try dsimp only at hSI); go_simp; (try with_reducible rfl))
        simp only [Act.put, List.setIfInBounds_toArray, List.set_cons_zero, List.set_cons_succ]
        refine rtake (i := 4) (d := (some 36)) (v := ?_) rfl (by kernel_rfl) (by kernel_rfl) (by kernel_rfl) (by kernel_rfl) (fun _ _ _ h => h) (by kernel_rfl) (by assumption) ?_ ?_
        rotate_left 1
        · (intro wI hSI; (try dsimp only at hSI); go_simp; (try with_reducible rfl))
        simp only [Act.put, List.setIfInBounds_toArray, List.set_cons_zero, List.set_cons_succ]
        refine rtake (i := 5) (d := (some 37)) (v := ?_) rfl (by kernel_rfl) (by kernel_rfl) (by kernel_rfl) (by kernel_rfl) (fun _ _ _ h => h) (by kernel_rfl) (by assumption) ?_ ?_
        rotate_left 1
        · (intro wI hSI; (try dsimp only at hSI); go_simp; (try with_reducible rfl))
        simp only [Act.put, List.setIfInBounds_toArray, List.set_cons_zero, List.set_cons_succ]
        refine rtake (i := 7) (d := (some 39)) (v := ?_) rfl (by kernel_rfl) (by kernel_rfl) (by kernel_rfl) (by kernel_rfl) (fun _ _ _ h => h) (by kernel_rfl) (by assumption) ?_ ?_
        rotate_left 1
        · (intro wI hSI; (try dsimp only at hSI); go_simp; (try with_reducible rfl))
        simp only [Act.put, List.setIfInBounds_toArray, List.set_cons_zero, List.set_cons_succ]
        refine rpair (i := 6) (j := 8) (di := some 38) (dj := some 40) (vi := v) (vj := .slice (some ⟨w6.heap.size, 0, none⟩) 1 1) (w' := (w6.alloc (.cells #[.string x1, .int .i64 x2, .int .i64 x3, .string x4, .string x5] 63)).drew) (by kernel_rfl) (by kernel_rfl) (by kernel_rfl) rfl rfl (by kernel_rfl) (by kernel_rfl) rfl rfl (by go_simp) (by go_simp) (by go_simp) (by go_simp) hHeld ?hS rfl (by kernel_rfl) ?_
        case hS => exact ⟨(hT6.alloc _).cell 0, (hT6.alloc _).cell 1, (hT6.alloc _).cell 2, (hT6.alloc _).cell 3, (hT6.alloc _).cell 4⟩
        simp only [Act.put, List.setIfInBounds_toArray, List.set_cons_zero, List.set_cons_succ]
        clear hT6_l hT6_0 hT6_1 hT6_2 hT6_3 hT6_4
        clear hHeld hlk hlk2
        refine rcall (i := 9) (d := (some 41)) (by kernel_rfl) rfl (by kernel_rfl) (fun K hK => ?_)
        refine step_append_lie (by rfl) _ _ 30 (by rfl) 63 64 (.agg #[.string ⟨#[]⟩, .int .i64 0, .int .i64 0, .string ⟨#[]⟩, .string ⟨#[]⟩]) Tryz.underlying30 Tryz.infoArv (by rfl) v ls (by rfl) hown (x1, x2, x3, x4, x5) w6.heap.size (by rfl) (Box.drew (Box.new w6 63 #[.string x1, .int .i64 x2, .int .i64 x3, .string x4, .string x5])) (by omega) (by omega) (by simp; omega) ?_; intro gg cap1 w7 hown1 hgrow hat; have hT7 := ((hT6.alloc (.cells #[.string x1, .int .i64 x2, .int .i64 x3, .string x4, .string x5] 63)).drew).grown hgrow HvT.out
        refine hK.out _ _ ?hS (fun hHeld => ?_)
        case hS => exact ⟨hT7.cell 0, hT7.cell 1, hT7.cell 2, hT7.cell 3, hT7.cell 4⟩
        clear hK K
        simp only [Act.put, List.setIfInBounds_toArray, List.set_cons_zero, List.set_cons_succ]
        obtain ⟨w8, hrun8, hM8, hg8, hs8⟩ := MBox.store (P := Tryz.prog) (hMb.grown hgrow Hvb.out) Tryz.underlying77 Tryz.underlying9 x1 (.slice (some ⟨gg, 0, none⟩) (ls.length + 1) cap1)
        have hT8 := hT7.grown hg8 (by simp; omega)
        clear hHeld
        refine rcall (i := 10) (d := none) (by kernel_rfl) rfl (by kernel_rfl) (fun K hK => ?_)
        go_simp
        refine hK.out undef _ ?hS (fun hHeld => ?_)
        case hS => exact ⟨hT8.cell 0, hT8.cell 1, hT8.cell 2, hT8.cell 3, hT8.cell 4⟩
        clear hK K
        simp only [Act.put, List.setIfInBounds_toArray, List.set_cons_zero, List.set_cons_succ]
        refine wpAnyH_done (by kernel_rfl) ?_ _
        have hb7 : Below w2.heap.size w3 w7 := Below.grown (w := (w6.alloc (.cells #[.string x1, .int .i64 x2, .int .i64 x3, .string x4, .string x5] 63)).drew) (by (repeat' (first | exact Below.refl _ _ | assumption | refine Below.setCell ?_ ?_ _ | refine below_drewN ?_ _ | refine Below.drew ?_ | refine Below.alloc ?_ ?_ _ | (with_reducible refine Below.trans ?_ (Below.mono hb ?_)) | (with_reducible refine Below.trans ?_ (Below.mono hb0 ?_)) | (with_reducible refine Below.trans ?_ (Below.mono hb1 ?_)) | (with_reducible refine Below.trans ?_ (Below.mono hb2 ?_)) | (with_reducible refine Below.trans ?_ (Below.mono hb3 ?_)) | (with_reducible refine Below.trans ?_ (Below.mono hb4 ?_)) | (with_reducible refine Below.trans ?_ (Below.mono hb5 ?_)) | (with_reducible refine Below.trans ?_ (Below.mono hb6 ?_)) | (with_reducible refine Below.trans ?_ (Below.mono hb7 ?_)) | (with_reducible refine Below.trans ?_ (Below.mono hb8 ?_)) | (with_reducible refine Below.trans ?_ (Below.mono hb9 ?_)) | (with_reducible refine Below.trans ?_ (Below.mono hb10 ?_)) | (with_reducible refine Below.trans ?_ (Below.mono hb11 ?_)) | (with_reducible refine Below.trans ?_ (Below.mono hb12 ?_)) | (with_reducible refine Below.trans ?_ (Below.mono hb13 ?_)) | (with_reducible refine Below.trans ?_ (Below.mono hb14 ?_)) | (with_reducible refine Below.trans ?_ (Below.mono hb15 ?_)) | omega | (simp; done) | (simp; omega)))) hgrow (by simp; omega) (fun j hj => by have := (Hvl5.out j hj).1; omega)
        have hb8 : Below w2.heap.size w3 w8 := Below.grown hb7 hg8 (by have := hb7.size; omega) (by rintro j hj; cases hj; omega)
        have hA8 := HStep.out w7 w8 gg cap1 hown1 hgrow hat hM8 hg8 (by omega)
        clear hT6 hT7 hT8 hrun8 hM8 hg8 hs8 hHeld hown1 hgrow hat HStep Hvl5 HvT Hvb hMb hown hb7
        rw [← Hfn.out] at hA8
        go_wp2_with fail
        rw [← Hae.out]
        go_roundg (L.length - (k + 1))
        case measure => have := hgk.out; omega
        case rel => exact ⟨k + 1, _, by go_num, by omega, rfl, hA8, hb8⟩
      · have hcn' : (cn == 1) = false := by simpa using hcn
        have Hfn : Hid ((fun p => ownL cB p (L.take (k + 1))) = fun p => ownL cB p (L.take k)) := by
          refine funext fun p => ?_
          rw [HF.out, HcBx.out, decide_eq_false hcn]
          simp
        rw [← Hfn.out] at hA6
        clear hcn
        go_wp2_with fail
        rw [← Hae.out]
        go_roundg (L.length - (k + 1))
        case measure => have := hgk.out; omega
        case rel => exact ⟨k + 1, _, by go_num, by omega, rfl, hA6, hb56⟩
    · obtain rfl : k = L.length := by omega
      rw [List.take_length] at hA
      go_wp2_with fail
      go_ret
      exact ⟨w2.heap.size, w2.heap.size + 1, es, rfl, by omega, by omega, hA, hbwr⟩
end Go.Proofs.YtifflpilnpcmoaaGreatDoor
