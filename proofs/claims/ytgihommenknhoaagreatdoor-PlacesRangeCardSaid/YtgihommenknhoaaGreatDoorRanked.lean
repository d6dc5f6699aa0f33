/- What the reference orders papers by: the key of a paper. -/
import Derived.Test.YtgihommenknhoaaGreatDoorOrder
import Derived.Test.YtgihommenknhoaaGreatDoorBal
/-! What the reference orders papers by: the key of a paper. -/
namespace Go.Proofs.YtgihommenknhoaaGreatDoor
open Go.RowKit Go.Sort
set_option linter.unusedVariables false
set_option linter.unusedSimpArgs false

/-- What the reference orders a paper by. -/
def valR (l : List Mark) (how : Int) (p : ByteArray) : V4 := if how = 2 then valF l how p else ((valF l how p).1, (valF l how p).2.1, 0, 0)
theorem part_zero (num : Int) (w : World) : Calls Tryz.prog 71 #[.int .i64 num, .int .i64 0] w (Gives (low 0 1) w) := by
  go_enter Tryz.func71, Tryz.ntmps71
  go_wp2_with fail
  refine bodyPost_ret (v := .agg #[.int .i64 0, .int .i64 1]) (by simp only [results, Tryz.results71]; go_simp) rfl ⟨by unfold low lowN lowD; rfl, ?_⟩
  (repeat' (first | exact Below.refl _ _ | assumption | refine Below.setCell ?_ ?_ _ | refine below_drewN ?_ _ | refine Below.drew ?_ | refine Below.alloc ?_ ?_ _ | (with_reducible refine Below.trans ?_ (Below.mono hb ?_)) | (with_reducible refine Below.trans ?_ (Below.mono hb0 ?_)) | (with_reducible refine Below.trans ?_ (Below.mono hb1 ?_)) | (with_reducible refine Below.trans ?_ (Below.mono hb2 ?_)) | (with_reducible refine Below.trans ?_ (Below.mono hb3 ?_)) | (with_reducible refine Below.trans ?_ (Below.mono hb4 ?_)) | (with_reducible refine Below.trans ?_ (Below.mono hb5 ?_)) | (with_reducible refine Below.trans ?_ (Below.mono hb6 ?_)) | (with_reducible refine Below.trans ?_ (Below.mono hb7 ?_)) | (with_reducible refine Below.trans ?_ (Below.mono hb8 ?_)) | (with_reducible refine Below.trans ?_ (Below.mono hb9 ?_)) | (with_reducible refine Below.trans ?_ (Below.mono hb10 ?_)) | (with_reducible refine Below.trans ?_ (Below.mono hb11 ?_)) | (with_reducible refine Below.trans ?_ (Below.mono hb12 ?_)) | (with_reducible refine Below.trans ?_ (Below.mono hb13 ?_)) | (with_reducible refine Below.trans ?_ (Below.mono hb14 ?_)) | (with_reducible refine Below.trans ?_ (Below.mono hb15 ?_)) | omega | (simp; done) | (simp; omega)))
theorem keyEq_any (x : Skill) (p : ByteArray) (B : Nat) (W : World) (hB : W.cell? ⟨B, 0, none⟩ = some (.string p)) :
    Calls Tryz.prog 136 #[.agg #[.string x.1, .int .i64 x.2], .pointer (some ⟨B, 0, none⟩)] W (Gives (.bool (decide (x.1 = p))) W) := by
  have hl := cell_lt hB
  have hB2 : (W.alloc (.cells #[.string x.1, .int .i64 x.2] 177)).cell? ⟨B, 0, none⟩ = some (.string p) := cell_later ((Below.refl _ _).alloc (Nat.le_refl _) _) hB
  by_cases h : x.1 = p
  · have e1 := tl_eq h
    rw [decide_eq_true h]
    clear h
    go_enter Tryz.func136, Tryz.ntmps136
    go_wp2_with fail
    go_ret
    refine ⟨rfl, ?_⟩
    (repeat' (first | exact Below.refl _ _ | assumption | refine Below.setCell ?_ ?_ _ | refine below_drewN ?_ _ | refine Below.drew ?_ | refine Below.alloc ?_ ?_ _ | (with_reducible refine Below.trans ?_ (Below.mono hb ?_)) | (with_reducible refine Below.trans ?_ (Below.mono hb0 ?_)) | (with_reducible refine Below.trans ?_ (Below.mono hb1 ?_)) | (with_reducible refine Below.trans ?_ (Below.mono hb2 ?_)) | (with_reducible refine Below.trans ?_ (Below.mono hb3 ?_)) | (with_reducible refine Below.trans ?_ (Below.mono hb4 ?_)) | (with_reducible refine Below.trans ?_ (Below.mono hb5 ?_)) | (with_reducible refine Below.trans ?_ (Below.mono hb6 ?_)) | (with_reducible refine Below.trans ?_ (Below.mono hb7 ?_)) | (with_reducible refine Below.trans ?_ (Below.mono hb8 ?_)) | (with_reducible refine Below.trans ?_ (Below.mono hb9 ?_)) | (with_reducible refine Below.trans ?_ (Below.mono hb10 ?_)) | (with_reducible refine Below.trans ?_ (Below.mono hb11 ?_)) | (with_reducible refine Below.trans ?_ (Below.mono hb12 ?_)) | (with_reducible refine Below.trans ?_ (Below.mono hb13 ?_)) | (with_reducible refine Below.trans ?_ (Below.mono hb14 ?_)) | (with_reducible refine Below.trans ?_ (Below.mono hb15 ?_)) | omega | (simp; done) | (simp; omega)))
  · have e1 := tl_ne h
    rw [decide_eq_false h]
    clear h
    go_enter Tryz.func136, Tryz.ntmps136
    go_wp2_with fail
    go_ret
    refine ⟨rfl, ?_⟩
    (repeat' (first | exact Below.refl _ _ | assumption | refine Below.setCell ?_ ?_ _ | refine below_drewN ?_ _ | refine Below.drew ?_ | refine Below.alloc ?_ ?_ _ | (with_reducible refine Below.trans ?_ (Below.mono hb ?_)) | (with_reducible refine Below.trans ?_ (Below.mono hb0 ?_)) | (with_reducible refine Below.trans ?_ (Below.mono hb1 ?_)) | (with_reducible refine Below.trans ?_ (Below.mono hb2 ?_)) | (with_reducible refine Below.trans ?_ (Below.mono hb3 ?_)) | (with_reducible refine Below.trans ?_ (Below.mono hb4 ?_)) | (with_reducible refine Below.trans ?_ (Below.mono hb5 ?_)) | (with_reducible refine Below.trans ?_ (Below.mono hb6 ?_)) | (with_reducible refine Below.trans ?_ (Below.mono hb7 ?_)) | (with_reducible refine Below.trans ?_ (Below.mono hb8 ?_)) | (with_reducible refine Below.trans ?_ (Below.mono hb9 ?_)) | (with_reducible refine Below.trans ?_ (Below.mono hb10 ?_)) | (with_reducible refine Below.trans ?_ (Below.mono hb11 ?_)) | (with_reducible refine Below.trans ?_ (Below.mono hb12 ?_)) | (with_reducible refine Below.trans ?_ (Below.mono hb13 ?_)) | (with_reducible refine Below.trans ?_ (Below.mono hb14 ?_)) | (with_reducible refine Below.trans ?_ (Below.mono hb15 ?_)) | omega | (simp; done) | (simp; omega)))
set_option maxHeartbeats 1000000 in
theorem idxLevel_any (l : List Skill) (a : Option Addr) (cap g : Nat) (lb : Array Value) (q : Skill → Bool) (k0 : Nat) (W : World) (hs : SA W a l) (hl : l.length ≤ 1000000) (eg : ∀ args w, (callFunc g args).run Tryz.prog w = .ok (.enter g args) w)
    (hc : ∀ W' x, x ∈ l → Below W.heap.size W W' → Calls Tryz.prog g (#[.agg #[.string x.1, .int .i64 x.2]] ++ lb) W' (Gives (.bool (q x)) W')) (hk0 : k0 < l.length) (hq : q l[k0] = true) (hfirst : ∀ j (hj : j < k0), q (l[j]'(by omega)) = false) :
    Calls Tryz.prog 135 #[.slice a l.length cap, .func (.func g) #[] lb] W (Gives (.int .i64 k0) W) := by
  have HC := Lib.hid hc
  have HQ := Lib.hid hq
  have HF := Lib.hid hfirst
  clear hc hq hfirst
  go_enter Tryz.func135, Tryz.ntmps135
  go_wp2_with fail
  go_loopg [8] l.length (fun gk i wr => ∃ k : Nat, i = .int .i64 k ∧ k ≤ k0 ∧ Hid (gk = l.length - k) ∧ Below W.heap.size W wr)
  case atStart => exact ⟨0, rfl, by omega, rfl, Below.refl _ _⟩
  case round =>
    obtain ⟨k, rfl, hk, hgk, hb⟩ := hrel
    have hlt : k < l.length := by omega
    obtain ⟨b, off, ha, c0, c1⟩ := (hs.below hb).skill hlt
    have HCx := Lib.hid (HC.out wr l[k] (List.getElem_mem hlt) hb)
    rw [ha]
    by_cases hkk : k = k0
    · subst hkk
      rw [HQ.out] at HCx
      generalize l[k] = x at *
      obtain ⟨x1, x2⟩ := x
      simp only at c0 c1 HCx
      go_wp2_with (go_at_fn g; refine HCx.out.mono ?_; rintro e w1 ⟨rfl, hb1⟩)
      go_ret
      exact ⟨rfl, below_next hb hb1⟩
    · rw [HF.out k (by omega)] at HCx
      generalize l[k] = x at *
      obtain ⟨x1, x2⟩ := x
      simp only at c0 c1 HCx
      go_wp2_with (go_at_fn g; refine HCx.out.mono ?_; rintro e w1 ⟨rfl, hb1⟩)
      rw [← ha]
      go_roundg (l.length - (k + 1))
      case measure => have := hgk.out; omega
      case rel => exact ⟨k + 1, by go_num, by omega, rfl, below_next hb hb1⟩
end Go.Proofs.YtgihommenknhoaaGreatDoor

/-! What the reference orders papers by: the key of a paper, walked. -/
namespace Go.Proofs.YtgihommenknhoaaGreatDoor
open Go.RowKit Go.Sort
set_option linter.unusedVariables false
set_option linter.unusedSimpArgs false

/-- What the key's function captures: the way, the marks, the papers, the worths. -/
structure KeyEnv (Bh Bl Bp Bw : Nat) (how : Int) (a : Option Addr) (cap : Nat) (l : List Mark) (aK : Option Addr) (capK : Nat) (ks : List ByteArray) (aw : Option Addr) (capw : Nat) (W : World) : Prop where
  ch : W.cell? ⟨Bh, 0, none⟩ = some (.int .i64 how)
  cl : W.cell? ⟨Bl, 0, none⟩ = some (.slice a l.length cap)
  cp : W.cell? ⟨Bp, 0, none⟩ = some (.slice aK ks.length capK)
  cw : W.cell? ⟨Bw, 0, none⟩ = some (.slice aw ks.length capw)
  sl : SA W a l
  sk : SA W aK ks
  sw : SA W aw (ks.map (fun k => ((k, (bal l 20).1 k) : Skill)))
theorem KeyEnv.below {Bh Bl Bp Bw : Nat} {how : Int} {a : Option Addr} {cap : Nat} {l : List Mark} {aK : Option Addr} {capK : Nat} {ks : List ByteArray} {aw : Option Addr} {capw : Nat} {W W' : World} (h : KeyEnv Bh Bl Bp Bw how a cap l aK capK ks aw capw W) (hb : Below W.heap.size W W') : KeyEnv Bh Bl Bp Bw how a cap l aK capK ks aw capw W' :=
  ⟨cell_later hb h.ch, cell_later hb h.cl, cell_later hb h.cp, cell_later hb h.cw, h.sl.below hb, h.sk.below hb, h.sw.below hb⟩
set_option maxRecDepth 100000 in
set_option maxHeartbeats 2000000 in
theorem keyClo_any (Bh Bl Bp Bw : Nat) (how : Int) (a : Option Addr) (cap : Nat) (l : List Mark) (aK : Option Addr) (capK : Nat) (ks : List ByteArray) (aw : Option Addr) (capw : Nat) (W : World) (hE : KeyEnv Bh Bl Bp Bw how a cap l aK capK ks aw capw W) (h0 : marksFault l = 0) (hl : l.length ≤ 400) (hkk : keysOf (fun x => x.1) l = ks) (hh1 : 1 ≤ how) (hh2 : how ≤ 5) (p : ByteArray) (hp : p ∈ ks) :
    Calls Tryz.prog 130 #[.string p, .pointer (some ⟨Bh, 0, none⟩), .pointer (some ⟨Bl, 0, none⟩), .pointer (some ⟨Bp, 0, none⟩), .pointer (some ⟨Bw, 0, none⟩)] W (Gives (valV (valR l how p)) W) := by
  have hne : sel (fun x => x.1) p l ≠ [] := fun h => by
    rw [← hkk, keysOf_mem] at hp
    exact sel_nil.1 h hp
  have hok := fault_scores h0
  have hP := (Box.new W 9 #[.string p]).alloc (.cells #[.int .i64 0, .int .i64 0, .int .i64 0, .int .i64 0] 107)
  have hRf := Box.newAt (W.alloc (.cells #[.string p] 9)) (W.heap.size + 1) 107 #[.int .i64 0, .int .i64 0, .int .i64 0, .int .i64 0] (by simp)
  have hb0 : Below W.heap.size W ((W.alloc (.cells #[.string p] 9)).alloc (.cells #[.int .i64 0, .int .i64 0, .int .i64 0, .int .i64 0] 107)) := by (repeat' (first | exact Below.refl _ _ | assumption | refine Below.setCell ?_ ?_ _ | refine below_drewN ?_ _ | refine Below.drew ?_ | refine Below.alloc ?_ ?_ _ | (with_reducible refine Below.trans ?_ (Below.mono hb ?_)) | (with_reducible refine Below.trans ?_ (Below.mono hb0 ?_)) | (with_reducible refine Below.trans ?_ (Below.mono hb1 ?_)) | (with_reducible refine Below.trans ?_ (Below.mono hb2 ?_)) | (with_reducible refine Below.trans ?_ (Below.mono hb3 ?_)) | (with_reducible refine Below.trans ?_ (Below.mono hb4 ?_)) | (with_reducible refine Below.trans ?_ (Below.mono hb5 ?_)) | (with_reducible refine Below.trans ?_ (Below.mono hb6 ?_)) | (with_reducible refine Below.trans ?_ (Below.mono hb7 ?_)) | (with_reducible refine Below.trans ?_ (Below.mono hb8 ?_)) | (with_reducible refine Below.trans ?_ (Below.mono hb9 ?_)) | (with_reducible refine Below.trans ?_ (Below.mono hb10 ?_)) | (with_reducible refine Below.trans ?_ (Below.mono hb11 ?_)) | (with_reducible refine Below.trans ?_ (Below.mono hb12 ?_)) | (with_reducible refine Below.trans ?_ (Below.mono hb13 ?_)) | (with_reducible refine Below.trans ?_ (Below.mono hb14 ?_)) | (with_reducible refine Below.trans ?_ (Below.mono hb15 ?_)) | omega | (simp; done) | (simp; omega)))
  have hE0 := hE.below hb0
  have hcase : how = 1 ∨ how = 2 ∨ how = 3 ∨ how = 4 ∨ how = 5 := by omega
  have Hkk := Lib.hid hkk
  clear hE hkk
  rcases hcase with rfl | rfl | rfl | rfl | rfl
  · have HV := Lib.hid (show valV (valR l 1 p) = .agg #[.int .i64 (lowN (sum1 (sel (fun x => x.1) p l)) (sel (fun x => x.1) p l).length), .int .i64 (lowD (sum1 (sel (fun x => x.1) p l)) (sel (fun x => x.1) p l).length), .int .i64 0, .int .i64 0] from rfl)
    have HM := Lib.hid (fun W (h : SA W a l) => meanOf_any l a cap p W h (by omega) hok hne)
    unfold low at HM
    generalize valV (valR l 1 p) = res at *
    generalize lowN (sum1 (sel (fun x => x.1) p l)) (sel (fun x => x.1) p l).length = q1 at *
    generalize lowD (sum1 (sel (fun x => x.1) p l)) (sel (fun x => x.1) p l).length = q2 at *
    have c1 := hE0.ch
    have c2 := hE0.cl
    have hP_l := hP.lt; have hP_0 := hP.cell 0; simp at hP_0
    go_enter Tryz.func130, Tryz.ntmps130
    go_wp2_with fail
    refine (HM.out _ hE0.sl).mono ?_
    rintro e wz ⟨rfl, hbz⟩
    have hRz := hRf.below hbz
    have hbfz := below_next hb0 hbz
    have hRz_l := hRz.lt; have hRz_0 := hRz.cell 0; have hRz_1 := hRz.cell 1; have hRz_2 := hRz.cell 2; have hRz_3 := hRz.cell 3; simp at hRz_0 hRz_1 hRz_2 hRz_3
    have hRz_f0 := hRz.frozen 0; have hRz_f1 := hRz.frozen 1; have hRz_f2 := hRz.frozen 2; have hRz_f3 := hRz.frozen 3
    go_wp2_with fail
    refine bodyPost_ret (v := .agg #[.int .i64 q1, .int .i64 q2, .int .i64 0, .int .i64 0]) (by simp only [results, Tryz.results130]; go_simp) rfl ⟨by rw [HV.out], ?_⟩
    (repeat' (first | exact Below.refl _ _ | assumption | refine Below.setCell ?_ ?_ _ | refine below_drewN ?_ _ | refine Below.drew ?_ | refine Below.alloc ?_ ?_ _ | (with_reducible refine Below.trans ?_ (Below.mono hb ?_)) | (with_reducible refine Below.trans ?_ (Below.mono hb0 ?_)) | (with_reducible refine Below.trans ?_ (Below.mono hb1 ?_)) | (with_reducible refine Below.trans ?_ (Below.mono hb2 ?_)) | (with_reducible refine Below.trans ?_ (Below.mono hb3 ?_)) | (with_reducible refine Below.trans ?_ (Below.mono hb4 ?_)) | (with_reducible refine Below.trans ?_ (Below.mono hb5 ?_)) | (with_reducible refine Below.trans ?_ (Below.mono hb6 ?_)) | (with_reducible refine Below.trans ?_ (Below.mono hb7 ?_)) | (with_reducible refine Below.trans ?_ (Below.mono hb8 ?_)) | (with_reducible refine Below.trans ?_ (Below.mono hb9 ?_)) | (with_reducible refine Below.trans ?_ (Below.mono hb10 ?_)) | (with_reducible refine Below.trans ?_ (Below.mono hb11 ?_)) | (with_reducible refine Below.trans ?_ (Below.mono hb12 ?_)) | (with_reducible refine Below.trans ?_ (Below.mono hb13 ?_)) | (with_reducible refine Below.trans ?_ (Below.mono hb14 ?_)) | (with_reducible refine Below.trans ?_ (Below.mono hb15 ?_)) | omega | (simp; done) | (simp; omega)))
  · have HV := Lib.hid (show valV (valR l 2 p) = .agg #[.int .i64 (medI (sortI (scL (sel (fun x => x.1) p l)))), .int .i64 1, .int .i64 (lowN (sum1 (sel (fun x => x.1) p l)) (sel (fun x => x.1) p l).length), .int .i64 (lowD (sum1 (sel (fun x => x.1) p l)) (sel (fun x => x.1) p l).length)] from rfl)
    have HM := Lib.hid (fun W (h : SA W a l) => meanOf_any l a cap p W h (by omega) hok hne)
    have HD := Lib.hid (fun W (h : SA W a l) => medianOf_any l a cap p W h (by omega) hok hne)
    unfold low at HM
    generalize valV (valR l 2 p) = res at *
    generalize lowN (sum1 (sel (fun x => x.1) p l)) (sel (fun x => x.1) p l).length = q1 at *
    generalize lowD (sum1 (sel (fun x => x.1) p l)) (sel (fun x => x.1) p l).length = q2 at *
    generalize medI (sortI (scL (sel (fun x => x.1) p l))) = md at *
    have c1 := hE0.ch
    have c2 := hE0.cl
    have hsl0 := hE0.sl
    generalize hW0 : ((W.alloc (.cells #[.string p] 9)).alloc (.cells #[.int .i64 0, .int .i64 0, .int .i64 0, .int .i64 0] 107)) = W0 at *
    have hP0 := hP.cell 0
    simp at hP0
    go_enter Tryz.func130, Tryz.ntmps130
    go_upto_region 1 with (fail)
    (try simp only [hW0])
    clear hW0
    go_wp2_with fail
    refine wp_regionF (S := (fun wx => wx.cell? ⟨Bl, 0, none⟩ = some (.slice a l.length cap) ∧ wx.cell? ⟨W.heap.size, 0, none⟩ = some (.string p) ∧ Below W0.heap.size W0 wx)) 8 (by kernel_rfl) ?hS (fun hHeld => ?_)
    case hS => exact ⟨c2, hP0, (Below.refl _ _).drew⟩
    refine rtakeF (i := 0) (d := (some 20)) (v := ?_) (n := 40) rfl (by kernel_rfl) (by kernel_rfl) (by kernel_rfl) (by kernel_rfl) (by kernel_rfl) (by kernel_rfl) (fun _ _ _ h => h) (by kernel_rfl) (by assumption) ?_ ?_
    rotate_left 1
    · (intro wI hSI; (try dsimp only at hSI); go_simp; (try with_reducible rfl))
    simp only [Act.put, List.setIfInBounds_toArray, List.set_cons_zero, List.set_cons_succ]
    refine rtakeF (i := 1) (d := (some 21)) (v := ?_) (n := 40) rfl (by kernel_rfl) (by kernel_rfl) (by kernel_rfl) (by kernel_rfl) (by kernel_rfl) (by kernel_rfl) (fun _ _ _ h => h) (by kernel_rfl) (by assumption) ?_ ?_
    rotate_left 1
    · (intro wI hSI; (try dsimp only at hSI); go_simp; (try with_reducible rfl))
    simp only [Act.put, List.setIfInBounds_toArray, List.set_cons_zero, List.set_cons_succ]
    refine rtakeF (i := 4) (d := (some 24)) (v := ?_) (n := 40) rfl (by kernel_rfl) (by kernel_rfl) (by kernel_rfl) (by kernel_rfl) (by kernel_rfl) (by kernel_rfl) (fun _ _ _ h => h) (by kernel_rfl) (by assumption) ?_ ?_
    rotate_left 1
    · (intro wI hSI; (try dsimp only at hSI); go_simp; (try with_reducible rfl))
    simp only [Act.put, List.setIfInBounds_toArray, List.set_cons_zero, List.set_cons_succ]
    refine rtakeF (i := 5) (d := (some 25)) (v := ?_) (n := 40) rfl (by kernel_rfl) (by kernel_rfl) (by kernel_rfl) (by kernel_rfl) (by kernel_rfl) (by kernel_rfl) (fun _ _ _ h => h) (by kernel_rfl) (by assumption) ?_ ?_
    rotate_left 1
    · (intro wI hSI; (try dsimp only at hSI); go_simp; (try with_reducible rfl))
    simp only [Act.put, List.setIfInBounds_toArray, List.set_cons_zero, List.set_cons_succ]
    refine rcallF (i := 2) (d := (some 22)) (by kernel_rfl) rfl (by kernel_rfl) (fun K hK => ?_)
    go_simp
    go_at_call 132; refine (HD.out _ (hsl0.below hHeld.2.2)).mono ?_; rintro e wa ⟨rfl, hba⟩
    refine hK.out _ _ (.inr ?hS) (fun hHeld0 => ?_)
    case hS => exact ⟨cell_later hba hHeld.1, cell_later hba hHeld.2.1, below_next hHeld.2.2 hba⟩
    clear hK K
    have hHeld := hHeld0.resolve_left (by decide)
    simp only [Act.put, List.setIfInBounds_toArray, List.set_cons_zero, List.set_cons_succ]
    refine rtakeF (i := 3) (d := (some 23)) (v := ?_) (n := 40) rfl (by kernel_rfl) (by kernel_rfl) (by kernel_rfl) (by kernel_rfl) (by kernel_rfl) (by kernel_rfl) (fun _ _ _ h => h) (by kernel_rfl) (by assumption) ?_ ?_
    rotate_left 1
    · (intro wI hSI; (try dsimp only at hSI); go_simp; (try with_reducible rfl))
    simp only [Act.put, List.setIfInBounds_toArray, List.set_cons_zero, List.set_cons_succ]
    refine rcallF (i := 6) (d := (some 26)) (by kernel_rfl) rfl (by kernel_rfl) (fun K hK => ?_)
    go_simp
    go_at_call 131; refine (HM.out _ (hsl0.below hHeld.2.2)).mono ?_; rintro e wz ⟨rfl, hbzz⟩
    refine hK.out _ _ (.inr ?hS) (fun hHeld0 => ?_)
    case hS => exact ⟨cell_later hbzz hHeld.1, cell_later hbzz hHeld.2.1, below_next hHeld.2.2 hbzz⟩
    clear hK K
    have hHeld := hHeld0.resolve_left (by decide)
    simp only [Act.put, List.setIfInBounds_toArray, List.set_cons_zero, List.set_cons_succ]
    refine rtakeF (i := 7) (d := (some 27)) (v := ?_) (n := 40) rfl (by kernel_rfl) (by kernel_rfl) (by kernel_rfl) (by kernel_rfl) (by kernel_rfl) (by kernel_rfl) (fun _ _ _ h => h) (by kernel_rfl) (by assumption) ?_ ?_
    rotate_left 1
    · (intro wI hSI; (try dsimp only at hSI); go_simp; (try with_reducible rfl))
    simp only [Act.put, List.setIfInBounds_toArray, List.set_cons_zero, List.set_cons_succ]
    have hbz := hHeld.2.2
    have hRz := hRf.below hbz
    have hbfz := below_next hb0 hbz
    have hRz_l := hRz.lt; have hRz_0 := hRz.cell 0; have hRz_1 := hRz.cell 1; have hRz_2 := hRz.cell 2; have hRz_3 := hRz.cell 3; simp at hRz_0 hRz_1 hRz_2 hRz_3
    have hRz_f0 := hRz.frozen 0; have hRz_f1 := hRz.frozen 1; have hRz_f2 := hRz.frozen 2; have hRz_f3 := hRz.frozen 3
    refine rcallF (i := 8) (d := none) (by kernel_rfl) rfl (by kernel_rfl) (fun K hK => ?_)
    go_simp
    refine hK.out undef _ (.inl rfl) (fun _ => ?_)
    clear hK K
    simp only [Act.put, List.setIfInBounds_toArray, List.set_cons_zero, List.set_cons_succ]
    refine wpAnyF_done (by kernel_rfl) ?_ _
    have hR1 := (((hRz.set 0 (.int .i64 md)).set 1 (.int .i64 1)).set 2 (.int .i64 q1)).set 3 (.int .i64 q2)
    have hbf1 := (((hbfz.setCell (p := ⟨W.heap.size + 1, 0, none⟩) (by simp) (.int .i64 md)).setCell (p := ⟨W.heap.size + 1, 1, none⟩) (by simp) (.int .i64 1)).setCell (p := ⟨W.heap.size + 1, 2, none⟩) (by simp) (.int .i64 q1)).setCell (p := ⟨W.heap.size + 1, 3, none⟩) (by simp) (.int .i64 q2)
    have hR2 : Box ((((wz.setCell ⟨W.heap.size + 1, 0, none⟩ (.int .i64 md)).setCell ⟨W.heap.size + 1, 1, none⟩ (.int .i64 1)).setCell ⟨W.heap.size + 1, 2, none⟩ (.int .i64 q1)).setCell ⟨W.heap.size + 1, 3, none⟩ (.int .i64 q2)) (W.heap.size + 1) 107 #[.int .i64 md, .int .i64 1, .int .i64 q1, .int .i64 q2] := hR1
    clear hRz_l hRz_0 hRz_1 hRz_2 hRz_3
    clear hR1 hRz_f0 hRz_f1 hRz_f2 hRz_f3
    generalize ((((wz.setCell ⟨W.heap.size + 1, 0, none⟩ (.int .i64 md)).setCell ⟨W.heap.size + 1, 1, none⟩ (.int .i64 1)).setCell ⟨W.heap.size + 1, 2, none⟩ (.int .i64 q1)).setCell ⟨W.heap.size + 1, 3, none⟩ (.int .i64 q2)) = WZ at *
    have hR2_l := hR2.lt; have hR2_0 := hR2.cell 0; have hR2_1 := hR2.cell 1; have hR2_2 := hR2.cell 2; have hR2_3 := hR2.cell 3; simp at hR2_0 hR2_1 hR2_2 hR2_3
    go_wp2_with fail
    refine bodyPost_ret (v := .agg #[.int .i64 md, .int .i64 1, .int .i64 q1, .int .i64 q2]) (by simp only [results, Tryz.results130]; go_simp) rfl ⟨by rw [HV.out], ?_⟩
    (repeat' (first | exact Below.refl _ _ | assumption | refine Below.setCell ?_ ?_ _ | refine below_drewN ?_ _ | refine Below.drew ?_ | refine Below.alloc ?_ ?_ _ | (with_reducible refine Below.trans ?_ (Below.mono hb ?_)) | (with_reducible refine Below.trans ?_ (Below.mono hb0 ?_)) | (with_reducible refine Below.trans ?_ (Below.mono hb1 ?_)) | (with_reducible refine Below.trans ?_ (Below.mono hb2 ?_)) | (with_reducible refine Below.trans ?_ (Below.mono hb3 ?_)) | (with_reducible refine Below.trans ?_ (Below.mono hb4 ?_)) | (with_reducible refine Below.trans ?_ (Below.mono hb5 ?_)) | (with_reducible refine Below.trans ?_ (Below.mono hb6 ?_)) | (with_reducible refine Below.trans ?_ (Below.mono hb7 ?_)) | (with_reducible refine Below.trans ?_ (Below.mono hb8 ?_)) | (with_reducible refine Below.trans ?_ (Below.mono hb9 ?_)) | (with_reducible refine Below.trans ?_ (Below.mono hb10 ?_)) | (with_reducible refine Below.trans ?_ (Below.mono hb11 ?_)) | (with_reducible refine Below.trans ?_ (Below.mono hb12 ?_)) | (with_reducible refine Below.trans ?_ (Below.mono hb13 ?_)) | (with_reducible refine Below.trans ?_ (Below.mono hb14 ?_)) | (with_reducible refine Below.trans ?_ (Below.mono hb15 ?_)) | omega | (simp; done) | (simp; omega)))
  · have HV := Lib.hid (show valV (valR l 3 p) = .agg #[.int .i64 (lowN (ptsN l p (ofP l p)) (max (ptsM l p (ofP l p)) 1)), .int .i64 (lowD (ptsN l p (ofP l p)) (max (ptsM l p (ofP l p)) 1)), .int .i64 0, .int .i64 0] from rfl)
    have HP := Lib.hid (fun W (h : SA W a l) => pointsOf_any l a cap p W h hl)
    have hpb := pts_bd l hl p (ofP l p)
    have h12 := paper_few h0 p
    have HQ : Hid (∀ W, Calls Tryz.prog 71 #[.int .i64 (ptsN l p (ofP l p)), .int .i64 (ptsM l p (ofP l p))] W (Gives (.agg #[.int .i64 (lowN (ptsN l p (ofP l p)) (max (ptsM l p (ofP l p)) 1)), .int .i64 (lowD (ptsN l p (ofP l p)) (max (ptsM l p (ofP l p)) 1))]) W)) := fun W => by
      by_cases hz : ptsM l p (ofP l p) = 0
      · have hn : ptsN l p (ofP l p) = 0 := by omega
        have h := part_zero (ptsN l p (ofP l p)) W
        rw [hz, hn] at *
        exact h
      · rw [Int.max_eq_left (by omega)]
        exact part_any _ _ W (by omega) (by omega) (by omega)
    generalize valV (valR l 3 p) = res at *
    generalize lowN (ptsN l p (ofP l p)) (max (ptsM l p (ofP l p)) 1) = q1 at *
    generalize lowD (ptsN l p (ofP l p)) (max (ptsM l p (ofP l p)) 1) = q2 at *
    generalize ptsN l p (ofP l p) = pn at *
    generalize ptsM l p (ofP l p) = pm at *
    have c1 := hE0.ch
    have c2 := hE0.cl
    clear hpb h12
    have hP_l := hP.lt; have hP_0 := hP.cell 0; simp at hP_0
    go_enter Tryz.func130, Tryz.ntmps130
    go_wp2_with fail
    refine (HP.out _ hE0.sl).mono ?_
    rintro e wy ⟨rfl, hby⟩
    go_wp2_with fail
    refine (HQ.out _).mono ?_
    rintro e wz ⟨rfl, hbyz⟩
    have hbz := below_next hby hbyz
    have hRz := hRf.below hbz
    have hbfz := below_next hb0 hbz
    have hRz_l := hRz.lt; have hRz_0 := hRz.cell 0; have hRz_1 := hRz.cell 1; have hRz_2 := hRz.cell 2; have hRz_3 := hRz.cell 3; simp at hRz_0 hRz_1 hRz_2 hRz_3
    have hRz_f0 := hRz.frozen 0; have hRz_f1 := hRz.frozen 1; have hRz_f2 := hRz.frozen 2; have hRz_f3 := hRz.frozen 3
    go_wp2_with fail
    refine bodyPost_ret (v := .agg #[.int .i64 q1, .int .i64 q2, .int .i64 0, .int .i64 0]) (by simp only [results, Tryz.results130]; go_simp) rfl ⟨by rw [HV.out], ?_⟩
    (repeat' (first | exact Below.refl _ _ | assumption | refine Below.setCell ?_ ?_ _ | refine below_drewN ?_ _ | refine Below.drew ?_ | refine Below.alloc ?_ ?_ _ | (with_reducible refine Below.trans ?_ (Below.mono hb ?_)) | (with_reducible refine Below.trans ?_ (Below.mono hb0 ?_)) | (with_reducible refine Below.trans ?_ (Below.mono hb1 ?_)) | (with_reducible refine Below.trans ?_ (Below.mono hb2 ?_)) | (with_reducible refine Below.trans ?_ (Below.mono hb3 ?_)) | (with_reducible refine Below.trans ?_ (Below.mono hb4 ?_)) | (with_reducible refine Below.trans ?_ (Below.mono hb5 ?_)) | (with_reducible refine Below.trans ?_ (Below.mono hb6 ?_)) | (with_reducible refine Below.trans ?_ (Below.mono hb7 ?_)) | (with_reducible refine Below.trans ?_ (Below.mono hb8 ?_)) | (with_reducible refine Below.trans ?_ (Below.mono hb9 ?_)) | (with_reducible refine Below.trans ?_ (Below.mono hb10 ?_)) | (with_reducible refine Below.trans ?_ (Below.mono hb11 ?_)) | (with_reducible refine Below.trans ?_ (Below.mono hb12 ?_)) | (with_reducible refine Below.trans ?_ (Below.mono hb13 ?_)) | (with_reducible refine Below.trans ?_ (Below.mono hb14 ?_)) | (with_reducible refine Below.trans ?_ (Below.mono hb15 ?_)) | omega | (simp; done) | (simp; omega)))
  · have HV : Hid (valV (valR l 4 p) = .agg #[.int .i64 (balW l p ks), .int .i64 1, .int .i64 0, .int .i64 0]) := by
      show _ = _
      rw [← Hkk.out]; rfl
    have HW := Lib.hid (fun pa pb W (h : SA W a l) => winsOf_any l a cap pa pb W h hl)
    have hlk := keysOf_length (fun x => x.1) l
    rw [Hkk.out] at hlk
    generalize valV (valR l 4 p) = res at *
    have c1 := hE0.ch
    have c3 := hE0.cp
    have hP0 := hP
    generalize hW0 : ((W.alloc (.cells #[.string p] 9)).alloc (.cells #[.int .i64 0, .int .i64 0, .int .i64 0, .int .i64 0] 107)) = W0 at *
    go_enter Tryz.func130, Tryz.ntmps130
    go_upto_region 1 with (fail)
    (try simp only [hW0])
    clear hW0
    go_wp2_with fail
    go_loopg [7, 41] ks.length (fun gk nv i wr => ∃ k : Nat, i = .int .i64 k ∧ k ≤ ks.length ∧ Hid (gk = ks.length - k) ∧ nv = .int .i64 (balW l p (ks.take k)) ∧ Below W0.heap.size W0 wr)
    case atStart => exact ⟨0, rfl, by omega, rfl, rfl, Below.refl _ _⟩
    clear c1 c3
    obtain ⟨k, rfl, hk, hgk, rfl, hb⟩ := hrel
    by_cases hlt : k < ks.length
    · have hEr := hE0.below hb
      have cl := hEr.cl
      obtain ⟨kb, koff, haK, ck⟩ := hEr.sk.str hlt
      have htake := List.take_succ_eq_append_getElem hlt
      have Hsn := Lib.hid (balW_snoc l p (ks.take k) ks[k])
      rw [← htake] at Hsn
      have hbb := balW_bd l p (ks.take k)
      rw [List.length_take] at hbb
      have HaK := Lib.hid haK
      rw [haK]
      clear haK htake
      generalize ks[k] = q at *
      generalize hbw : balW l p (ks.take k) = bw at *
      have Hbw := Lib.hid hbw
      clear hbw
      have hPr := hP0.below hb
      have hPc := hPr.cell 0
      simp at hPc
      by_cases hqp : q = p
      · have e1 := tl_eq' hqp
        have e2 := tl_eq hqp
        have e3 : q.toList = p.toList := by rw [hqp]
        have Hs2 : Hid (balW l p (ks.take (k + 1)) = bw) := by
          show _ = _
          rw [Hsn.out, hqp, cmpI_self, Int.add_zero]
        clear hqp
        go_wp2_with fail
        rw [← HaK.out]
        go_roundg (ks.length - (k + 1))
        case measure => have := hgk.out; omega
        case rel => exact ⟨k + 1, by go_num, by omega, rfl, by rw [Hs2.out], hb⟩
      · have e1 := tl_ne' hqp
        have e2 := tl_ne hqp
        have e3 : ¬ q.toList = p.toList := fun h => hqp (toList_inj.1 h)
        have hcb := cmpI_bd (winsN l p q) (winsN l q p)
        have HC := Lib.hid (fun W => Tryz.cmp_Compare_int (winsN l p q) (winsN l q p) W)
        rw [show Lib.compareInt (winsN l p q) (winsN l q p) = cmpI (winsN l p q) (winsN l q p) from rfl] at HC
        have HW1 := Lib.hid (HW.out p q)
        have HW2 := Lib.hid (HW.out q p)
        generalize cmpI (winsN l p q) (winsN l q p) = cz at *
        generalize winsN l p q = w1 at *
        generalize winsN l q p = w2 at *
        have hsl0 := hEr.sl
        have hww : IntKind.i64.wrap (bw + cz) = bw + cz := IntWalk.i64_in _ (by omega)
        clear hqp hEr
        go_wp2_with fail
        refine wp_region_held_drew (S := (fun wx => wx.cell? ⟨Bl, 0, none⟩ = some (.slice a l.length cap) ∧ wx.cell? ⟨W.heap.size, 0, none⟩ = some (.string p) ∧ Below wr.heap.size wr wx)) (by kernel_rfl) ?hS (fun hHeld => ?_)
        case hS => exact ⟨cl, hPc, (Below.refl _ _).drew⟩
        refine rtake (i := 0) (d := (some 48)) (v := ?_) rfl (by kernel_rfl) (by kernel_rfl) (by kernel_rfl) (by kernel_rfl) (fun _ _ _ h => h) (by kernel_rfl) (by assumption) ?_ ?_
        rotate_left 1
        · (intro wI hSI; (try dsimp only at hSI); go_simp; (try with_reducible rfl))
        simp only [Act.put, List.setIfInBounds_toArray, List.set_cons_zero, List.set_cons_succ]
        refine rtake (i := 1) (d := (some 49)) (v := ?_) rfl (by kernel_rfl) (by kernel_rfl) (by kernel_rfl) (by kernel_rfl) (fun _ _ _ h => h) (by kernel_rfl) (by assumption) ?_ ?_
        rotate_left 1
        · (intro wI hSI; (try dsimp only at hSI); go_simp; (try with_reducible rfl))
        simp only [Act.put, List.setIfInBounds_toArray, List.set_cons_zero, List.set_cons_succ]
        refine rtake (i := 2) (d := (some 50)) (v := ?_) rfl (by kernel_rfl) (by kernel_rfl) (by kernel_rfl) (by kernel_rfl) (fun _ _ _ h => h) (by kernel_rfl) (by assumption) ?_ ?_
        rotate_left 1
        · (intro wI hSI; (try dsimp only at hSI); go_simp; (try with_reducible rfl))
        simp only [Act.put, List.setIfInBounds_toArray, List.set_cons_zero, List.set_cons_succ]
        refine rtake (i := 3) (d := (some 51)) (v := ?_) rfl (by kernel_rfl) (by kernel_rfl) (by kernel_rfl) (by kernel_rfl) (fun _ _ _ h => h) (by kernel_rfl) (by assumption) ?_ ?_
        rotate_left 1
        · (intro wI hSI; (try dsimp only at hSI); go_simp; (try with_reducible rfl))
        simp only [Act.put, List.setIfInBounds_toArray, List.set_cons_zero, List.set_cons_succ]
        refine rtake (i := 5) (d := (some 53)) (v := ?_) rfl (by kernel_rfl) (by kernel_rfl) (by kernel_rfl) (by kernel_rfl) (fun _ _ _ h => h) (by kernel_rfl) (by assumption) ?_ ?_
        rotate_left 1
        · (intro wI hSI; (try dsimp only at hSI); go_simp; (try with_reducible rfl))
        simp only [Act.put, List.setIfInBounds_toArray, List.set_cons_zero, List.set_cons_succ]
        refine rtake (i := 6) (d := (some 54)) (v := ?_) rfl (by kernel_rfl) (by kernel_rfl) (by kernel_rfl) (by kernel_rfl) (fun _ _ _ h => h) (by kernel_rfl) (by assumption) ?_ ?_
        rotate_left 1
        · (intro wI hSI; (try dsimp only at hSI); go_simp; (try with_reducible rfl))
        simp only [Act.put, List.setIfInBounds_toArray, List.set_cons_zero, List.set_cons_succ]
        refine rtake (i := 7) (d := (some 55)) (v := ?_) rfl (by kernel_rfl) (by kernel_rfl) (by kernel_rfl) (by kernel_rfl) (fun _ _ _ h => h) (by kernel_rfl) (by assumption) ?_ ?_
        rotate_left 1
        · (intro wI hSI; (try dsimp only at hSI); go_simp; (try with_reducible rfl))
        simp only [Act.put, List.setIfInBounds_toArray, List.set_cons_zero, List.set_cons_succ]
        refine rcall (i := 4) (d := (some 52)) (by kernel_rfl) rfl (by kernel_rfl) (fun K hK => ?_)
        go_simp
        go_at_call 134; refine (HW1.out _ (hsl0.below hHeld.2.2)).mono ?_; rintro e wa ⟨rfl, hba⟩
        refine hK.out _ _ ?hS (fun hHeld => ?_)
        case hS => exact ⟨cell_later hba hHeld.1, cell_later hba hHeld.2.1, below_next hHeld.2.2 hba⟩
        clear hK K
        simp only [Act.put, List.setIfInBounds_toArray, List.set_cons_zero, List.set_cons_succ]
        refine rcall (i := 8) (d := (some 56)) (by kernel_rfl) rfl (by kernel_rfl) (fun K hK => ?_)
        go_simp
        go_at_call 134; refine (HW2.out _ (hsl0.below hHeld.2.2)).mono ?_; rintro e wb ⟨rfl, hbb2⟩
        refine hK.out _ _ ?hS (fun hHeld => ?_)
        case hS => exact ⟨cell_later hbb2 hHeld.1, cell_later hbb2 hHeld.2.1, below_next hHeld.2.2 hbb2⟩
        clear hK K
        simp only [Act.put, List.setIfInBounds_toArray, List.set_cons_zero, List.set_cons_succ]
        refine rcall (i := 9) (d := (some 57)) (by kernel_rfl) rfl (by kernel_rfl) (fun K hK => ?_)
        go_simp
        go_at_call 105; refine (HC.out _).mono ?_; rintro e wc ⟨rfl, rfl⟩
        refine hK.out _ _ ?hS (fun hHeld => ?_)
        case hS => exact hHeld
        clear hK K
        simp only [Act.put, List.setIfInBounds_toArray, List.set_cons_zero, List.set_cons_succ]
        refine rtake (i := 10) (d := (some 58)) (v := ?_) rfl (by kernel_rfl) (by kernel_rfl) (by kernel_rfl) (by kernel_rfl) (fun _ _ _ h => h) (by kernel_rfl) (by assumption) ?_ ?_
        rotate_left 1
        · (intro wI hSI; (try dsimp only at hSI); go_simp; (try with_reducible rfl))
        simp only [Act.put, List.setIfInBounds_toArray, List.set_cons_zero, List.set_cons_succ]
        refine rtake (i := 11) (d := (some 7)) (v := ?_) rfl (by kernel_rfl) (by kernel_rfl) (by kernel_rfl) (by kernel_rfl) (fun _ _ _ h => h) (by kernel_rfl) (by assumption) ?_ ?_
        rotate_left 1
        · (intro wI hSI; (try dsimp only at hSI); go_simp; (try with_reducible rfl))
        simp only [Act.put, List.setIfInBounds_toArray, List.set_cons_zero, List.set_cons_succ]
        refine wpAnyH_done (by kernel_rfl) ?_ _
        have hbn := below_next hb hHeld.2.2
        clear hHeld hb cl hPc hsl0
        go_wp2_with fail
        rw [← HaK.out]
        go_roundg (ks.length - (k + 1))
        case measure => have := hgk.out; omega
        case rel => exact ⟨k + 1, by go_num, by omega, rfl, by rw [Hsn.out], hbn⟩
    · obtain rfl : k = ks.length := by omega
      rw [List.take_length] at *
      have hbz := hb
      have hRz := hRf.below hbz
      have hbfz := below_next hb0 hbz
      generalize balW l p ks = bw at *
      clear hlt hb
      have hRz_l := hRz.lt; have hRz_0 := hRz.cell 0; have hRz_1 := hRz.cell 1; have hRz_2 := hRz.cell 2; have hRz_3 := hRz.cell 3; simp at hRz_0 hRz_1 hRz_2 hRz_3
      have hRz_f0 := hRz.frozen 0; have hRz_f1 := hRz.frozen 1; have hRz_f2 := hRz.frozen 2; have hRz_f3 := hRz.frozen 3
      go_wp2_with fail
      refine bodyPost_ret (v := .agg #[.int .i64 bw, .int .i64 1, .int .i64 0, .int .i64 0]) (by simp only [results, Tryz.results130]; go_simp) rfl ⟨by rw [HV.out], ?_⟩
      (repeat' (first | exact Below.refl _ _ | assumption | refine Below.setCell ?_ ?_ _ | refine below_drewN ?_ _ | refine Below.drew ?_ | refine Below.alloc ?_ ?_ _ | (with_reducible refine Below.trans ?_ (Below.mono hb ?_)) | (with_reducible refine Below.trans ?_ (Below.mono hb0 ?_)) | (with_reducible refine Below.trans ?_ (Below.mono hb1 ?_)) | (with_reducible refine Below.trans ?_ (Below.mono hb2 ?_)) | (with_reducible refine Below.trans ?_ (Below.mono hb3 ?_)) | (with_reducible refine Below.trans ?_ (Below.mono hb4 ?_)) | (with_reducible refine Below.trans ?_ (Below.mono hb5 ?_)) | (with_reducible refine Below.trans ?_ (Below.mono hb6 ?_)) | (with_reducible refine Below.trans ?_ (Below.mono hb7 ?_)) | (with_reducible refine Below.trans ?_ (Below.mono hb8 ?_)) | (with_reducible refine Below.trans ?_ (Below.mono hb9 ?_)) | (with_reducible refine Below.trans ?_ (Below.mono hb10 ?_)) | (with_reducible refine Below.trans ?_ (Below.mono hb11 ?_)) | (with_reducible refine Below.trans ?_ (Below.mono hb12 ?_)) | (with_reducible refine Below.trans ?_ (Below.mono hb13 ?_)) | (with_reducible refine Below.trans ?_ (Below.mono hb14 ?_)) | (with_reducible refine Below.trans ?_ (Below.mono hb15 ?_)) | omega | (simp; done) | (simp; omega)))
  · have HV := Lib.hid (show valV (valR l 5 p) = .agg #[.int .i64 ((bal l 20).1 p), .int .i64 1, .int .i64 0, .int .i64 0] from rfl)
    obtain ⟨k0, hk0, hget⟩ := List.mem_iff_getElem.1 hp
    have hnd : ks.Nodup := by rw [← Hkk.out]; exact (keysS_rise _).nodup
    have hsw := hE0.sw
    have hlk := keysOf_length (fun x => x.1) l
    rw [Hkk.out] at hlk
    have hp0 : ((W.alloc (.cells #[.string p] 9)).alloc (.cells #[.int .i64 0, .int .i64 0, .int .i64 0, .int .i64 0] 107)).cell? ⟨W.heap.size, 0, none⟩ = some (.string p) := by simp
    have HI := Lib.hid (idxLevel_any (ks.map (fun k => ((k, (bal l 20).1 k) : Skill))) aw capw 136 #[.pointer (some ⟨W.heap.size, 0, none⟩)] (fun x => decide (x.1 = p)) k0 _ hsw (by rw [List.length_map]; omega) (enters_of Tryz.func136 (by kernel_rfl) rfl)
      (fun W' x hx hb => keyEq_any x p W.heap.size W' (cell_later hb hp0)) (by rw [List.length_map]; exact hk0) (by simp [hget]) (fun j hj => by
        simp only [List.getElem_map, decide_eq_false_iff_not]
        rw [← hget]
        exact List.pairwise_iff_getElem.1 hnd j k0 (by omega) hk0 hj))
    rw [List.length_map] at HI
    obtain ⟨wb, woff, haw, d0, d1⟩ := hsw.skill (i := k0) (by rw [List.length_map]; exact hk0)
    have hd1 : ((W.alloc (.cells #[.string p] 9)).alloc (.cells #[.int .i64 0, .int .i64 0, .int .i64 0, .int .i64 0] 107)).cell? ⟨wb, woff + k0 * 2 + 1, none⟩ = some (.int .i64 ((bal l 20).1 p)) := by rw [d1]; simp [hget]
    generalize valV (valR l 5 p) = res at *
    generalize (bal l 20).1 p = bv at *
    have c1 := hE0.ch
    have c4 := hE0.cw
    rw [haw] at c4 HI
    have hk1 : (0 : Int) ≤ (k0 : Int) := by omega
    have hk2 : (k0 : Int) < (ks.length : Int) := by omega
    clear hnd hget d0 d1 hsw haw
    have hP_l := hP.lt; have hP_0 := hP.cell 0; simp at hP_0
    go_enter Tryz.func130, Tryz.ntmps130
    go_wp2_with fail
    refine HI.out.mono ?_
    rintro e wz ⟨rfl, hbz⟩
    have c4z := cell_later hbz c4
    have hd1z := cell_later hbz hd1
    have hRz := hRf.below hbz
    have hbfz := below_next hb0 hbz
    have hRz_l := hRz.lt; have hRz_0 := hRz.cell 0; have hRz_1 := hRz.cell 1; have hRz_2 := hRz.cell 2; have hRz_3 := hRz.cell 3; simp at hRz_0 hRz_1 hRz_2 hRz_3
    have hRz_f0 := hRz.frozen 0; have hRz_f1 := hRz.frozen 1; have hRz_f2 := hRz.frozen 2; have hRz_f3 := hRz.frozen 3
    go_wp2_with fail
    refine bodyPost_ret (v := .agg #[.int .i64 bv, .int .i64 1, .int .i64 0, .int .i64 0]) (by simp only [results, Tryz.results130]; go_simp) rfl ⟨by rw [HV.out], ?_⟩
    (repeat' (first | exact Below.refl _ _ | assumption | refine Below.setCell ?_ ?_ _ | refine below_drewN ?_ _ | refine Below.drew ?_ | refine Below.alloc ?_ ?_ _ | (with_reducible refine Below.trans ?_ (Below.mono hb ?_)) | (with_reducible refine Below.trans ?_ (Below.mono hb0 ?_)) | (with_reducible refine Below.trans ?_ (Below.mono hb1 ?_)) | (with_reducible refine Below.trans ?_ (Below.mono hb2 ?_)) | (with_reducible refine Below.trans ?_ (Below.mono hb3 ?_)) | (with_reducible refine Below.trans ?_ (Below.mono hb4 ?_)) | (with_reducible refine Below.trans ?_ (Below.mono hb5 ?_)) | (with_reducible refine Below.trans ?_ (Below.mono hb6 ?_)) | (with_reducible refine Below.trans ?_ (Below.mono hb7 ?_)) | (with_reducible refine Below.trans ?_ (Below.mono hb8 ?_)) | (with_reducible refine Below.trans ?_ (Below.mono hb9 ?_)) | (with_reducible refine Below.trans ?_ (Below.mono hb10 ?_)) | (with_reducible refine Below.trans ?_ (Below.mono hb11 ?_)) | (with_reducible refine Below.trans ?_ (Below.mono hb12 ?_)) | (with_reducible refine Below.trans ?_ (Below.mono hb13 ?_)) | (with_reducible refine Below.trans ?_ (Below.mono hb14 ?_)) | (with_reducible refine Below.trans ?_ (Below.mono hb15 ?_)) | omega | (simp; done) | (simp; omega)))
end Go.Proofs.YtgihommenknhoaaGreatDoor

/-! How the reference orders papers: the comparison. -/
namespace Go.Proofs.YtgihommenknhoaaGreatDoor
open Go.RowKit Go.Sort
set_option linter.unusedVariables false
set_option linter.unusedSimpArgs false

/-- Bounds of the reference's values. -/
def ok4R (v : V4) : Prop := (v.1.natAbs ≤ 1000000000 ∧ 0 ≤ v.2.1 ∧ v.2.1 ≤ 1000000) ∧ (v.2.2.1.natAbs ≤ 1000000000 ∧ 0 ≤ v.2.2.2 ∧ v.2.2.2 ≤ 1000000)
/-- Two values and two keys are compared. -/
def cmpR4 (vx vy : V4) (x y : ByteArray) : Int := firstOf [vy.1 * vx.2.1 - vx.1 * vy.2.1, vy.2.2.1 * vx.2.2.2 - vx.2.2.1 * vy.2.2.2, cmpS x y]
theorem vzeroR (w : World) : (zeroValue 107).run Tryz.prog w = .ok (.agg #[.int .i64 0, .int .i64 0, .int .i64 0, .int .i64 0]) w := Tryz.zeroValue107 w
set_option maxRecDepth 100000 in
set_option maxHeartbeats 1000000 in
theorem rankClo_any (B mb : Nat) (es : List (ByteArray × Value)) (x y : ByteArray) (vx vy : V4) (W : World) (hB : W.cell? ⟨B, 0, none⟩ = some (.map (some mb))) (hM : MBox W mb es) (hx : mget es x = some (valV vx)) (hy : mget es y = some (valV vy)) (ox : ok4R vx) (oy : ok4R vy) :
    Calls Tryz.prog 137 #[.string x, .string y, .pointer (some ⟨B, 0, none⟩)] W (Gives (.int .i64 (cmpR4 vx vy x y)) W) := by
  have HL : Hid (∀ (W' : World) (k : ByteArray) (v : V4), Below W.heap.size W W' → mget es k = some (valV v) → (Instr.lookup 180 (.map (some mb)) (.string k) false).run Tryz.prog W' = .ok (valV v) W') := fun W' k v hb hk => by
    rw [MBox.look (hM.below hb) Tryz.underlying180 Tryz.underlying9 _ vzeroR k false]
    unfold looked
    simp only [Bool.false_eq_true, if_false, hk, Option.getD_some]
  have hly := HL.out W.drew y vy (Below.refl _ _).drew hy
  have hlx := HL.out W.drew x vx (Below.refl _ _).drew hx
  have HC : Hid (cmpR4 vx vy x y = firstOf [vy.1 * vx.2.1 - vx.1 * vy.2.1, vy.2.2.1 * vx.2.2.2 - vx.2.2.1 * vy.2.2.2, cmpS x y]) := rfl
  have m1 := mul_inZ (x := vy.1) (y := vx.2.1) (X := 1000000000) (Y := 1000000) (by have := oy.1.1; omega) (by have := oy.1.1; omega) (by have := ox.1.2.1; omega) ox.1.2.2
  have m2 := mul_inZ (x := vx.1) (y := vy.2.1) (X := 1000000000) (Y := 1000000) (by have := ox.1.1; omega) (by have := ox.1.1; omega) (by have := oy.1.2.1; omega) oy.1.2.2
  have m3 := mul_inZ (x := vy.2.2.1) (y := vx.2.2.2) (X := 1000000000) (Y := 1000000) (by have := oy.2.1; omega) (by have := oy.2.1; omega) (by have := ox.2.2.1; omega) ox.2.2.2
  have m4 := mul_inZ (x := vx.2.2.1) (y := vy.2.2.2) (X := 1000000000) (Y := 1000000) (by have := ox.2.1; omega) (by have := ox.2.1; omega) (by have := oy.2.2.1; omega) oy.2.2.2
  have hsc := fun W' => Tryz.strings_Compare x y W'
  have HSC : Hid (∀ W', Calls Tryz.prog 125 #[.string x, .string y] W' (fun e w' => e = .returned (.int .i64 (cmpS x y)) ∧ w' = W')) := hsc
  have Hx := Lib.hid hx
  have Hy := Lib.hid hy
  obtain ⟨x1, x2, x3, x4⟩ := vx
  obtain ⟨y1, y2, y3, y4⟩ := vy
  simp only at HC m1 m2 m3 m4
  generalize cmpR4 (x1, x2, x3, x4) (y1, y2, y3, y4) x y = res at *
  have hw1 : IntKind.i64.wrap (y1 * x2) = y1 * x2 := IntWalk.i64_in _ (by omega)
  have hw2 : IntKind.i64.wrap (x1 * y2) = x1 * y2 := IntWalk.i64_in _ (by omega)
  have hw3 : IntKind.i64.wrap (y3 * x4) = y3 * x4 := IntWalk.i64_in _ (by omega)
  have hw4 : IntKind.i64.wrap (x3 * y4) = x3 * y4 := IntWalk.i64_in _ (by omega)
  have hw5 : IntKind.i64.wrap (y1 * x2 - x1 * y2) = y1 * x2 - x1 * y2 := IntWalk.i64_in _ (by omega)
  have hw6 : IntKind.i64.wrap (y3 * x4 - x3 * y4) = y3 * x4 - x3 * y4 := IntWalk.i64_in _ (by omega)
  generalize hcs : cmpS x y = cs at *
  clear m1 m2 m3 m4 ox oy hsc hx hy hM hcs
  unfold valV at *
  simp only at *
  go_enter Tryz.func137, Tryz.ntmps137
  go_wp2_with fail
  have hbl := cell_lt hB
  have hb1 : ∀ o, Below W.heap.size W (W.alloc o) := fun o => (Below.refl _ _).alloc (Nat.le_refl _) _
  have hb2 : ∀ o o', Below W.heap.size W ((W.alloc o).alloc o') := fun o o' => (hb1 o).alloc (hb1 o).size _
  have hc1 : ∀ o, (W.alloc o).cell? ⟨B, 0, none⟩ = some (.map (some mb)) := fun o => cell_later (hb1 o) hB
  have hc2 : ∀ o o', ((W.alloc o).alloc o').cell? ⟨B, 0, none⟩ = some (.map (some mb)) := fun o o' => cell_later (hb2 o o') hB
  have hly1 := fun o => HL.out _ y (y1, y2, y3, y4) (hb1 o).drew Hy.out
  have hlx1 := fun o => HL.out _ x (x1, x2, x3, x4) (hb1 o).drew Hx.out
  have hly2 := fun o o' => HL.out _ y (y1, y2, y3, y4) (hb2 o o').drew Hy.out
  have hlx2 := fun o o' => HL.out _ x (x1, x2, x3, x4) (hb2 o o').drew Hx.out
  clear hb1 hb2
  unfold valV at hly1 hlx1 hly2 hlx2
  simp only at hly1 hlx1 hly2 hlx2
  go_region
  · have hbw : Below W.heap.size W ((W.alloc (.cells #[.int .i64 x1, .int .i64 x2, .int .i64 x3, .int .i64 x4] 107)).alloc (.cells #[.int .i64 y1, .int .i64 y2, .int .i64 y3, .int .i64 y4] 107)).drew := by (repeat' (first | exact Below.refl _ _ | assumption | refine Below.setCell ?_ ?_ _ | refine below_drewN ?_ _ | refine Below.drew ?_ | refine Below.alloc ?_ ?_ _ | (with_reducible refine Below.trans ?_ (Below.mono hb ?_)) | (with_reducible refine Below.trans ?_ (Below.mono hb0 ?_)) | (with_reducible refine Below.trans ?_ (Below.mono hb1 ?_)) | (with_reducible refine Below.trans ?_ (Below.mono hb2 ?_)) | (with_reducible refine Below.trans ?_ (Below.mono hb3 ?_)) | (with_reducible refine Below.trans ?_ (Below.mono hb4 ?_)) | (with_reducible refine Below.trans ?_ (Below.mono hb5 ?_)) | (with_reducible refine Below.trans ?_ (Below.mono hb6 ?_)) | (with_reducible refine Below.trans ?_ (Below.mono hb7 ?_)) | (with_reducible refine Below.trans ?_ (Below.mono hb8 ?_)) | (with_reducible refine Below.trans ?_ (Below.mono hb9 ?_)) | (with_reducible refine Below.trans ?_ (Below.mono hb10 ?_)) | (with_reducible refine Below.trans ?_ (Below.mono hb11 ?_)) | (with_reducible refine Below.trans ?_ (Below.mono hb12 ?_)) | (with_reducible refine Below.trans ?_ (Below.mono hb13 ?_)) | (with_reducible refine Below.trans ?_ (Below.mono hb14 ?_)) | (with_reducible refine Below.trans ?_ (Below.mono hb15 ?_)) | omega | (simp; done) | (simp; omega)))
    have hbX := ((Box.new W 107 #[.int .i64 x1, .int .i64 x2, .int .i64 x3, .int .i64 x4]).alloc (.cells #[.int .i64 y1, .int .i64 y2, .int .i64 y3, .int .i64 y4] 107)).drew
    have hbY := (Box.newAt (W.alloc (.cells #[.int .i64 x1, .int .i64 x2, .int .i64 x3, .int .i64 x4] 107)) (W.heap.size + 1) 107 #[.int .i64 y1, .int .i64 y2, .int .i64 y3, .int .i64 y4] (by simp)).drew
    clear hc1 hc2 hly1 hlx1 hly2 hlx2 hlx hly hB HL
    generalize ((W.alloc (.cells #[.int .i64 x1, .int .i64 x2, .int .i64 x3, .int .i64 x4] 107)).alloc (.cells #[.int .i64 y1, .int .i64 y2, .int .i64 y3, .int .i64 y4] 107)).drew = W2 at *
    have hbX_l := hbX.lt; have hbX_0 := hbX.cell 0; have hbX_1 := hbX.cell 1; have hbX_2 := hbX.cell 2; have hbX_3 := hbX.cell 3; simp at hbX_0 hbX_1 hbX_2 hbX_3
    have hbY_l := hbY.lt; have hbY_0 := hbY.cell 0; have hbY_1 := hbY.cell 1; have hbY_2 := hbY.cell 2; have hbY_3 := hbY.cell 3; simp at hbY_0 hbY_1 hbY_2 hbY_3
    go_wp2_with fail
    refine wp_region_held_drew (S := (fun wx => wx.cell? ⟨W.heap.size, 0, none⟩ = some (.int .i64 x1) ∧ wx.cell? ⟨W.heap.size, 1, none⟩ = some (.int .i64 x2) ∧ wx.cell? ⟨W.heap.size, 2, none⟩ = some (.int .i64 x3) ∧ wx.cell? ⟨W.heap.size, 3, none⟩ = some (.int .i64 x4) ∧ wx.cell? ⟨(W.heap.size + 1), 0, none⟩ = some (.int .i64 y1) ∧ wx.cell? ⟨(W.heap.size + 1), 1, none⟩ = some (.int .i64 y2) ∧ wx.cell? ⟨(W.heap.size + 1), 2, none⟩ = some (.int .i64 y3) ∧ wx.cell? ⟨(W.heap.size + 1), 3, none⟩ = some (.int .i64 y4))) (by kernel_rfl) ?hS (fun hHeld => ?_)
    case hS => exact ⟨hbX_0, hbX_1, hbX_2, hbX_3, hbY_0, hbY_1, hbY_2, hbY_3⟩
    refine rtake (i := 0) (d := (some 14)) (v := ?_) rfl (by kernel_rfl) (by kernel_rfl) (by kernel_rfl) (by kernel_rfl) (fun _ _ _ h => h) (by kernel_rfl) (by assumption) ?_ ?_
    rotate_left 1
    · (intro wI hSI; (try dsimp only at hSI); go_simp; (try with_reducible rfl))
    simp only [Act.put, List.setIfInBounds_toArray, List.set_cons_zero, List.set_cons_succ]
    refine rtake (i := 1) (d := (some 15)) (v := ?_) rfl (by kernel_rfl) (by kernel_rfl) (by kernel_rfl) (by kernel_rfl) (fun _ _ _ h => h) (by kernel_rfl) (by assumption) ?_ ?_
    rotate_left 1
    · (intro wI hSI; (try dsimp only at hSI); go_simp; (try with_reducible rfl))
    simp only [Act.put, List.setIfInBounds_toArray, List.set_cons_zero, List.set_cons_succ]
    refine rtake (i := 2) (d := (some 16)) (v := ?_) rfl (by kernel_rfl) (by kernel_rfl) (by kernel_rfl) (by kernel_rfl) (fun _ _ _ h => h) (by kernel_rfl) (by assumption) ?_ ?_
    rotate_left 1
    · (intro wI hSI; (try dsimp only at hSI); go_simp; (try with_reducible rfl))
    simp only [Act.put, List.setIfInBounds_toArray, List.set_cons_zero, List.set_cons_succ]
    refine rtake (i := 3) (d := (some 17)) (v := ?_) rfl (by kernel_rfl) (by kernel_rfl) (by kernel_rfl) (by kernel_rfl) (fun _ _ _ h => h) (by kernel_rfl) (by assumption) ?_ ?_
    rotate_left 1
    · (intro wI hSI; (try dsimp only at hSI); go_simp; (try with_reducible rfl))
    simp only [Act.put, List.setIfInBounds_toArray, List.set_cons_zero, List.set_cons_succ]
    refine rtake (i := 4) (d := (some 18)) (v := ?_) rfl (by kernel_rfl) (by kernel_rfl) (by kernel_rfl) (by kernel_rfl) (fun _ _ _ h => h) (by kernel_rfl) (by assumption) ?_ ?_
    rotate_left 1
    · (intro wI hSI; (try dsimp only at hSI); go_simp; (try with_reducible rfl))
    simp only [Act.put, List.setIfInBounds_toArray, List.set_cons_zero, List.set_cons_succ]
    refine rtake (i := 5) (d := (some 19)) (v := ?_) rfl (by kernel_rfl) (by kernel_rfl) (by kernel_rfl) (by kernel_rfl) (fun _ _ _ h => h) (by kernel_rfl) (by assumption) ?_ ?_
    rotate_left 1
    · (intro wI hSI; (try dsimp only at hSI); go_simp; (try with_reducible rfl))
    simp only [Act.put, List.setIfInBounds_toArray, List.set_cons_zero, List.set_cons_succ]
    refine rtake (i := 6) (d := (some 20)) (v := ?_) rfl (by kernel_rfl) (by kernel_rfl) (by kernel_rfl) (by kernel_rfl) (fun _ _ _ h => h) (by kernel_rfl) (by assumption) ?_ ?_
    rotate_left 1
    · (intro wI hSI; (try dsimp only at hSI); go_simp; (try with_reducible rfl))
    simp only [Act.put, List.setIfInBounds_toArray, List.set_cons_zero, List.set_cons_succ]
    refine rtake (i := 7) (d := (some 21)) (v := ?_) rfl (by kernel_rfl) (by kernel_rfl) (by kernel_rfl) (by kernel_rfl) (fun _ _ _ h => h) (by kernel_rfl) (by assumption) ?_ ?_
    rotate_left 1
    · (intro wI hSI; (try dsimp only at hSI); go_simp; (try with_reducible rfl))
    simp only [Act.put, List.setIfInBounds_toArray, List.set_cons_zero, List.set_cons_succ]
    refine rtake (i := 8) (d := (some 22)) (v := ?_) rfl (by kernel_rfl) (by kernel_rfl) (by kernel_rfl) (by kernel_rfl) (fun _ _ _ h => h) (by kernel_rfl) (by assumption) ?_ ?_
    rotate_left 1
    · (intro wI hSI; (try dsimp only at hSI); go_simp; (try with_reducible rfl))
    simp only [Act.put, List.setIfInBounds_toArray, List.set_cons_zero, List.set_cons_succ]
    refine rtake (i := 9) (d := (some 23)) (v := ?_) rfl (by kernel_rfl) (by kernel_rfl) (by kernel_rfl) (by kernel_rfl) (fun _ _ _ h => h) (by kernel_rfl) (by assumption) ?_ ?_
    rotate_left 1
    · (intro wI hSI; (try dsimp only at hSI); go_simp; (try with_reducible rfl))
    simp only [Act.put, List.setIfInBounds_toArray, List.set_cons_zero, List.set_cons_succ]
    refine rtake (i := 10) (d := (some 24)) (v := ?_) rfl (by kernel_rfl) (by kernel_rfl) (by kernel_rfl) (by kernel_rfl) (fun _ _ _ h => h) (by kernel_rfl) (by assumption) ?_ ?_
    rotate_left 1
    · (intro wI hSI; (try dsimp only at hSI); go_simp; (try with_reducible rfl))
    simp only [Act.put, List.setIfInBounds_toArray, List.set_cons_zero, List.set_cons_succ]
    refine rtake (i := 11) (d := (some 25)) (v := ?_) rfl (by kernel_rfl) (by kernel_rfl) (by kernel_rfl) (by kernel_rfl) (fun _ _ _ h => h) (by kernel_rfl) (by assumption) ?_ ?_
    rotate_left 1
    · (intro wI hSI; (try dsimp only at hSI); go_simp; (try with_reducible rfl))
    simp only [Act.put, List.setIfInBounds_toArray, List.set_cons_zero, List.set_cons_succ]
    refine rtake (i := 12) (d := (some 26)) (v := ?_) rfl (by kernel_rfl) (by kernel_rfl) (by kernel_rfl) (by kernel_rfl) (fun _ _ _ h => h) (by kernel_rfl) (by assumption) ?_ ?_
    rotate_left 1
    · (intro wI hSI; (try dsimp only at hSI); go_simp; (try with_reducible rfl))
    simp only [Act.put, List.setIfInBounds_toArray, List.set_cons_zero, List.set_cons_succ]
    refine rtake (i := 13) (d := (some 27)) (v := ?_) rfl (by kernel_rfl) (by kernel_rfl) (by kernel_rfl) (by kernel_rfl) (fun _ _ _ h => h) (by kernel_rfl) (by assumption) ?_ ?_
    rotate_left 1
    · (intro wI hSI; (try dsimp only at hSI); go_simp; (try with_reducible rfl))
    simp only [Act.put, List.setIfInBounds_toArray, List.set_cons_zero, List.set_cons_succ]
    refine rtake (i := 14) (d := (some 28)) (v := ?_) rfl (by kernel_rfl) (by kernel_rfl) (by kernel_rfl) (by kernel_rfl) (fun _ _ _ h => h) (by kernel_rfl) (by assumption) ?_ ?_
    rotate_left 1
    · (intro wI hSI; (try dsimp only at hSI); go_simp; (try with_reducible rfl))
    simp only [Act.put, List.setIfInBounds_toArray, List.set_cons_zero, List.set_cons_succ]
    refine rtake (i := 15) (d := (some 29)) (v := ?_) rfl (by kernel_rfl) (by kernel_rfl) (by kernel_rfl) (by kernel_rfl) (fun _ _ _ h => h) (by kernel_rfl) (by assumption) ?_ ?_
    rotate_left 1
    · (intro wI hSI; (try dsimp only at hSI); go_simp; (try with_reducible rfl))
    simp only [Act.put, List.setIfInBounds_toArray, List.set_cons_zero, List.set_cons_succ]
    refine rtake (i := 16) (d := (some 30)) (v := ?_) rfl (by kernel_rfl) (by kernel_rfl) (by kernel_rfl) (by kernel_rfl) (fun _ _ _ h => h) (by kernel_rfl) (by assumption) ?_ ?_
    rotate_left 1
    · (intro wI hSI; (try dsimp only at hSI); go_simp; (try with_reducible rfl))
    simp only [Act.put, List.setIfInBounds_toArray, List.set_cons_zero, List.set_cons_succ]
    refine rtake (i := 17) (d := (some 31)) (v := ?_) rfl (by kernel_rfl) (by kernel_rfl) (by kernel_rfl) (by kernel_rfl) (fun _ _ _ h => h) (by kernel_rfl) (by assumption) ?_ ?_
    rotate_left 1
    · (intro wI hSI; (try dsimp only at hSI); go_simp; (try with_reducible rfl))
    simp only [Act.put, List.setIfInBounds_toArray, List.set_cons_zero, List.set_cons_succ]
    refine rtake (i := 18) (d := (some 32)) (v := ?_) rfl (by kernel_rfl) (by kernel_rfl) (by kernel_rfl) (by kernel_rfl) (fun _ _ _ h => h) (by kernel_rfl) (by assumption) ?_ ?_
    rotate_left 1
    · (intro wI hSI; (try dsimp only at hSI); go_simp; (try with_reducible rfl))
    simp only [Act.put, List.setIfInBounds_toArray, List.set_cons_zero, List.set_cons_succ]
    refine rtake (i := 19) (d := (some 33)) (v := ?_) rfl (by kernel_rfl) (by kernel_rfl) (by kernel_rfl) (by kernel_rfl) (fun _ _ _ h => h) (by kernel_rfl) (by assumption) ?_ ?_
    rotate_left 1
    · (intro wI hSI; (try dsimp only at hSI); go_simp; (try with_reducible rfl))
    simp only [Act.put, List.setIfInBounds_toArray, List.set_cons_zero, List.set_cons_succ]
    refine rtake (i := 20) (d := (some 34)) (v := ?_) rfl (by kernel_rfl) (by kernel_rfl) (by kernel_rfl) (by kernel_rfl) (fun _ _ _ h => h) (by kernel_rfl) (by assumption) ?_ ?_
    rotate_left 1
    · (intro wI hSI; (try dsimp only at hSI); go_simp; (try with_reducible rfl))
    simp only [Act.put, List.setIfInBounds_toArray, List.set_cons_zero, List.set_cons_succ]
    refine rtake (i := 21) (d := (some 35)) (v := ?_) rfl (by kernel_rfl) (by kernel_rfl) (by kernel_rfl) (by kernel_rfl) (fun _ _ _ h => h) (by kernel_rfl) (by assumption) ?_ ?_
    rotate_left 1
    · (intro wI hSI; (try dsimp only at hSI); go_simp; (try with_reducible rfl))
    simp only [Act.put, List.setIfInBounds_toArray, List.set_cons_zero, List.set_cons_succ]
    refine rtake (i := 22) (d := (some 36)) (v := ?_) rfl (by kernel_rfl) (by kernel_rfl) (by kernel_rfl) (by kernel_rfl) (fun _ _ _ h => h) (by kernel_rfl) (by assumption) ?_ ?_
    rotate_left 1
    · (intro wI hSI; (try dsimp only at hSI); go_simp; (try with_reducible rfl))
    simp only [Act.put, List.setIfInBounds_toArray, List.set_cons_zero, List.set_cons_succ]
    refine rtake (i := 23) (d := (some 37)) (v := ?_) rfl (by kernel_rfl) (by kernel_rfl) (by kernel_rfl) (by kernel_rfl) (fun _ _ _ h => h) (by kernel_rfl) (by assumption) ?_ ?_
    rotate_left 1
    · (intro wI hSI; (try dsimp only at hSI); go_simp; (try with_reducible rfl))
    simp only [Act.put, List.setIfInBounds_toArray, List.set_cons_zero, List.set_cons_succ]
    refine rtake (i := 24) (d := (some 38)) (v := ?_) rfl (by kernel_rfl) (by kernel_rfl) (by kernel_rfl) (by kernel_rfl) (fun _ _ _ h => h) (by kernel_rfl) (by assumption) ?_ ?_
    rotate_left 1
    · (intro wI hSI; (try dsimp only at hSI); go_simp; (try with_reducible rfl))
    simp only [Act.put, List.setIfInBounds_toArray, List.set_cons_zero, List.set_cons_succ]
    refine rtake (i := 25) (d := (some 39)) (v := ?_) rfl (by kernel_rfl) (by kernel_rfl) (by kernel_rfl) (by kernel_rfl) (fun _ _ _ h => h) (by kernel_rfl) (by assumption) ?_ ?_
    rotate_left 1
    · (intro wI hSI; (try dsimp only at hSI); go_simp; (try with_reducible rfl))
    simp only [Act.put, List.setIfInBounds_toArray, List.set_cons_zero, List.set_cons_succ]
    refine rtake (i := 26) (d := (some 40)) (v := ?_) rfl (by kernel_rfl) (by kernel_rfl) (by kernel_rfl) (by kernel_rfl) (fun _ _ _ h => h) (by kernel_rfl) (by assumption) ?_ ?_
    rotate_left 1
    · (intro wI hSI; (try dsimp only at hSI); go_simp; (try with_reducible rfl))
    simp only [Act.put, List.setIfInBounds_toArray, List.set_cons_zero, List.set_cons_succ]
    refine rtake (i := 27) (d := (some 41)) (v := ?_) rfl (by kernel_rfl) (by kernel_rfl) (by kernel_rfl) (by kernel_rfl) (fun _ _ _ h => h) (by kernel_rfl) (by assumption) ?_ ?_
    rotate_left 1
    · (intro wI hSI; (try dsimp only at hSI); go_simp; (try with_reducible rfl))
    simp only [Act.put, List.setIfInBounds_toArray, List.set_cons_zero, List.set_cons_succ]
    refine rtake (i := 28) (d := (some 42)) (v := ?_) rfl (by kernel_rfl) (by kernel_rfl) (by kernel_rfl) (by kernel_rfl) (fun _ _ _ h => h) (by kernel_rfl) (by assumption) ?_ ?_
    rotate_left 1
    · (intro wI hSI; (try dsimp only at hSI); go_simp; (try with_reducible rfl))
    simp only [Act.put, List.setIfInBounds_toArray, List.set_cons_zero, List.set_cons_succ]
    refine rtake (i := 29) (d := (some 43)) (v := ?_) rfl (by kernel_rfl) (by kernel_rfl) (by kernel_rfl) (by kernel_rfl) (fun _ _ _ h => h) (by kernel_rfl) (by assumption) ?_ ?_
    rotate_left 1
    · (intro wI hSI; (try dsimp only at hSI); go_simp; (try with_reducible rfl))
    simp only [Act.put, List.setIfInBounds_toArray, List.set_cons_zero, List.set_cons_succ]
    refine rtake (i := 30) (d := (some 44)) (v := ?_) rfl (by kernel_rfl) (by kernel_rfl) (by kernel_rfl) (by kernel_rfl) (fun _ _ _ h => h) (by kernel_rfl) (by assumption) ?_ ?_
    rotate_left 1
    · (intro wI hSI; (try dsimp only at hSI); go_simp; (try with_reducible rfl))
    simp only [Act.put, List.setIfInBounds_toArray, List.set_cons_zero, List.set_cons_succ]
    refine rtake (i := 31) (d := (some 45)) (v := ?_) rfl (by kernel_rfl) (by kernel_rfl) (by kernel_rfl) (by kernel_rfl) (fun _ _ _ h => h) (by kernel_rfl) (by assumption) ?_ ?_
    rotate_left 1
    · (intro wI hSI; (try dsimp only at hSI); go_simp; (try with_reducible rfl))
    simp only [Act.put, List.setIfInBounds_toArray, List.set_cons_zero, List.set_cons_succ]
    refine rcall (i := 32) (d := (some 46)) (by kernel_rfl) rfl (by kernel_rfl) (fun K hK => ?_)
    go_simp
    go_at_call 125; refine (HSC.out _).mono ?_; rintro e wa ⟨rfl, rfl⟩
    refine hK.out _ _ ?hS (fun hHeld => ?_)
    case hS => exact hHeld
    clear hK K
    simp only [Act.put, List.setIfInBounds_toArray, List.set_cons_zero, List.set_cons_succ]
    have hbl : Below W2.drew.heap.size W2.drew (W2.drew.alloc (.cells #[.int .i64 (y1 * x2 - x1 * y2), .int .i64 (y3 * x4 - x3 * y4), .int .i64 cs] 3)) := (Below.refl _ _).alloc (Nat.le_refl _) _
    have hbo := Box.new W2.drew 3 #[.int .i64 (y1 * x2 - x1 * y2), .int .i64 (y3 * x4 - x3 * y4), .int .i64 cs]
    refine rcall (i := 33) (d := (some 47)) (by kernel_rfl) rfl (by kernel_rfl) (fun K hK => ?_)
    go_simp
    refine hK.out _ _ ?hS (fun hHeld => ?_)
    case hS => exact ⟨cell_later hbl hHeld.1, cell_later hbl hHeld.2.1, cell_later hbl hHeld.2.2.1, cell_later hbl hHeld.2.2.2.1, cell_later hbl hHeld.2.2.2.2.1, cell_later hbl hHeld.2.2.2.2.2.1, cell_later hbl hHeld.2.2.2.2.2.2.1, cell_later hbl hHeld.2.2.2.2.2.2.2⟩
    clear hK K
    simp only [Act.put, List.setIfInBounds_toArray, List.set_cons_zero, List.set_cons_succ]
    refine rcall (i := 34) (d := (some 48)) (by kernel_rfl) rfl (by kernel_rfl) (fun K hK => ?_)
    go_simp
    go_at_call 122; refine (or_any [y1 * x2 - x1 * y2, y3 * x4 - x3 * y4, cs] _ 3 _ (hbo.sa [y1 * x2 - x1 * y2, y3 * x4 - x3 * y4, cs] rfl) (by simp)).mono ?_; rintro e wc ⟨rfl, rfl⟩
    refine hK.out _ _ ?hS (fun hHeld => ?_)
    case hS => exact hHeld
    clear hK K
    simp only [Act.put, List.setIfInBounds_toArray, List.set_cons_zero, List.set_cons_succ]
    refine rtake (i := 35) (d := (some 5)) (v := ?_) rfl (by kernel_rfl) (by kernel_rfl) (by kernel_rfl) (by kernel_rfl) (fun _ _ _ h => h) (by kernel_rfl) (by assumption) ?_ ?_
    rotate_left 1
    · (intro wI hSI; (try dsimp only at hSI); go_simp; (try with_reducible rfl))
    simp only [Act.put, List.setIfInBounds_toArray, List.set_cons_zero, List.set_cons_succ]
    refine wpAnyH_done (by kernel_rfl) ?_ _
    have hfin := below_next hbw.drew hbl
    go_wp2_with fail
    go_ret
    exact ⟨by rw [HC.out] <;> rfl, hfin⟩
  · have hbw : Below W.heap.size W ((W.alloc (.cells #[.int .i64 y1, .int .i64 y2, .int .i64 y3, .int .i64 y4] 107)).alloc (.cells #[.int .i64 x1, .int .i64 x2, .int .i64 x3, .int .i64 x4] 107)).drew := by (repeat' (first | exact Below.refl _ _ | assumption | refine Below.setCell ?_ ?_ _ | refine below_drewN ?_ _ | refine Below.drew ?_ | refine Below.alloc ?_ ?_ _ | (with_reducible refine Below.trans ?_ (Below.mono hb ?_)) | (with_reducible refine Below.trans ?_ (Below.mono hb0 ?_)) | (with_reducible refine Below.trans ?_ (Below.mono hb1 ?_)) | (with_reducible refine Below.trans ?_ (Below.mono hb2 ?_)) | (with_reducible refine Below.trans ?_ (Below.mono hb3 ?_)) | (with_reducible refine Below.trans ?_ (Below.mono hb4 ?_)) | (with_reducible refine Below.trans ?_ (Below.mono hb5 ?_)) | (with_reducible refine Below.trans ?_ (Below.mono hb6 ?_)) | (with_reducible refine Below.trans ?_ (Below.mono hb7 ?_)) | (with_reducible refine Below.trans ?_ (Below.mono hb8 ?_)) | (with_reducible refine Below.trans ?_ (Below.mono hb9 ?_)) | (with_reducible refine Below.trans ?_ (Below.mono hb10 ?_)) | (with_reducible refine Below.trans ?_ (Below.mono hb11 ?_)) | (with_reducible refine Below.trans ?_ (Below.mono hb12 ?_)) | (with_reducible refine Below.trans ?_ (Below.mono hb13 ?_)) | (with_reducible refine Below.trans ?_ (Below.mono hb14 ?_)) | (with_reducible refine Below.trans ?_ (Below.mono hb15 ?_)) | omega | (simp; done) | (simp; omega)))
    have hbX := (Box.newAt (W.alloc (.cells #[.int .i64 y1, .int .i64 y2, .int .i64 y3, .int .i64 y4] 107)) (W.heap.size + 1) 107 #[.int .i64 x1, .int .i64 x2, .int .i64 x3, .int .i64 x4] (by simp)).drew
    have hbY := ((Box.new W 107 #[.int .i64 y1, .int .i64 y2, .int .i64 y3, .int .i64 y4]).alloc (.cells #[.int .i64 x1, .int .i64 x2, .int .i64 x3, .int .i64 x4] 107)).drew
    clear hc1 hc2 hly1 hlx1 hly2 hlx2 hlx hly hB HL
    generalize ((W.alloc (.cells #[.int .i64 y1, .int .i64 y2, .int .i64 y3, .int .i64 y4] 107)).alloc (.cells #[.int .i64 x1, .int .i64 x2, .int .i64 x3, .int .i64 x4] 107)).drew = W2 at *
    have hbX_l := hbX.lt; have hbX_0 := hbX.cell 0; have hbX_1 := hbX.cell 1; have hbX_2 := hbX.cell 2; have hbX_3 := hbX.cell 3; simp at hbX_0 hbX_1 hbX_2 hbX_3
    have hbY_l := hbY.lt; have hbY_0 := hbY.cell 0; have hbY_1 := hbY.cell 1; have hbY_2 := hbY.cell 2; have hbY_3 := hbY.cell 3; simp at hbY_0 hbY_1 hbY_2 hbY_3
    go_wp2_with fail
    refine wp_region_held_drew (S := (fun wx => wx.cell? ⟨(W.heap.size + 1), 0, none⟩ = some (.int .i64 x1) ∧ wx.cell? ⟨(W.heap.size + 1), 1, none⟩ = some (.int .i64 x2) ∧ wx.cell? ⟨(W.heap.size + 1), 2, none⟩ = some (.int .i64 x3) ∧ wx.cell? ⟨(W.heap.size + 1), 3, none⟩ = some (.int .i64 x4) ∧ wx.cell? ⟨W.heap.size, 0, none⟩ = some (.int .i64 y1) ∧ wx.cell? ⟨W.heap.size, 1, none⟩ = some (.int .i64 y2) ∧ wx.cell? ⟨W.heap.size, 2, none⟩ = some (.int .i64 y3) ∧ wx.cell? ⟨W.heap.size, 3, none⟩ = some (.int .i64 y4))) (by kernel_rfl) ?hS (fun hHeld => ?_)
    case hS => exact ⟨hbX_0, hbX_1, hbX_2, hbX_3, hbY_0, hbY_1, hbY_2, hbY_3⟩
    refine rtake (i := 0) (d := (some 14)) (v := ?_) rfl (by kernel_rfl) (by kernel_rfl) (by kernel_rfl) (by kernel_rfl) (fun _ _ _ h => h) (by kernel_rfl) (by assumption) ?_ ?_
    rotate_left 1
    · (intro wI hSI; (try dsimp only at hSI); go_simp; (try with_reducible rfl))
    simp only [Act.put, List.setIfInBounds_toArray, List.set_cons_zero, List.set_cons_succ]
    refine rtake (i := 1) (d := (some 15)) (v := ?_) rfl (by kernel_rfl) (by kernel_rfl) (by kernel_rfl) (by kernel_rfl) (fun _ _ _ h => h) (by kernel_rfl) (by assumption) ?_ ?_
    rotate_left 1
    · (intro wI hSI; (try dsimp only at hSI); go_simp; (try with_reducible rfl))
    simp only [Act.put, List.setIfInBounds_toArray, List.set_cons_zero, List.set_cons_succ]
    refine rtake (i := 2) (d := (some 16)) (v := ?_) rfl (by kernel_rfl) (by kernel_rfl) (by kernel_rfl) (by kernel_rfl) (fun _ _ _ h => h) (by kernel_rfl) (by assumption) ?_ ?_
    rotate_left 1
    · (intro wI hSI; (try dsimp only at hSI); go_simp; (try with_reducible rfl))
    simp only [Act.put, List.setIfInBounds_toArray, List.set_cons_zero, List.set_cons_succ]
    refine rtake (i := 3) (d := (some 17)) (v := ?_) rfl (by kernel_rfl) (by kernel_rfl) (by kernel_rfl) (by kernel_rfl) (fun _ _ _ h => h) (by kernel_rfl) (by assumption) ?_ ?_
    rotate_left 1
    · (intro wI hSI; (try dsimp only at hSI); go_simp; (try with_reducible rfl))
    simp only [Act.put, List.setIfInBounds_toArray, List.set_cons_zero, List.set_cons_succ]
    refine rtake (i := 4) (d := (some 18)) (v := ?_) rfl (by kernel_rfl) (by kernel_rfl) (by kernel_rfl) (by kernel_rfl) (fun _ _ _ h => h) (by kernel_rfl) (by assumption) ?_ ?_
    rotate_left 1
    · (intro wI hSI; (try dsimp only at hSI); go_simp; (try with_reducible rfl))
    simp only [Act.put, List.setIfInBounds_toArray, List.set_cons_zero, List.set_cons_succ]
    refine rtake (i := 5) (d := (some 19)) (v := ?_) rfl (by kernel_rfl) (by kernel_rfl) (by kernel_rfl) (by kernel_rfl) (fun _ _ _ h => h) (by kernel_rfl) (by assumption) ?_ ?_
    rotate_left 1
    · (intro wI hSI; (try dsimp only at hSI); go_simp; (try with_reducible rfl))
    simp only [Act.put, List.setIfInBounds_toArray, List.set_cons_zero, List.set_cons_succ]
    refine rtake (i := 6) (d := (some 20)) (v := ?_) rfl (by kernel_rfl) (by kernel_rfl) (by kernel_rfl) (by kernel_rfl) (fun _ _ _ h => h) (by kernel_rfl) (by assumption) ?_ ?_
    rotate_left 1
    · (intro wI hSI; (try dsimp only at hSI); go_simp; (try with_reducible rfl))
    simp only [Act.put, List.setIfInBounds_toArray, List.set_cons_zero, List.set_cons_succ]
    refine rtake (i := 7) (d := (some 21)) (v := ?_) rfl (by kernel_rfl) (by kernel_rfl) (by kernel_rfl) (by kernel_rfl) (fun _ _ _ h => h) (by kernel_rfl) (by assumption) ?_ ?_
    rotate_left 1
    · (intro wI hSI; (try dsimp only at hSI); go_simp; (try with_reducible rfl))
    simp only [Act.put, List.setIfInBounds_toArray, List.set_cons_zero, List.set_cons_succ]
    refine rtake (i := 8) (d := (some 22)) (v := ?_) rfl (by kernel_rfl) (by kernel_rfl) (by kernel_rfl) (by kernel_rfl) (fun _ _ _ h => h) (by kernel_rfl) (by assumption) ?_ ?_
    rotate_left 1
    · (intro wI hSI; (try dsimp only at hSI); go_simp; (try with_reducible rfl))
    simp only [Act.put, List.setIfInBounds_toArray, List.set_cons_zero, List.set_cons_succ]
    refine rtake (i := 9) (d := (some 23)) (v := ?_) rfl (by kernel_rfl) (by kernel_rfl) (by kernel_rfl) (by kernel_rfl) (fun _ _ _ h => h) (by kernel_rfl) (by assumption) ?_ ?_
    rotate_left 1
    · (intro wI hSI; (try dsimp only at hSI); go_simp; (try with_reducible rfl))
    simp only [Act.put, List.setIfInBounds_toArray, List.set_cons_zero, List.set_cons_succ]
    refine rtake (i := 10) (d := (some 24)) (v := ?_) rfl (by kernel_rfl) (by kernel_rfl) (by kernel_rfl) (by kernel_rfl) (fun _ _ _ h => h) (by kernel_rfl) (by assumption) ?_ ?_
    rotate_left 1
    · (intro wI hSI; (try dsimp only at hSI); go_simp; (try with_reducible rfl))
    simp only [Act.put, List.setIfInBounds_toArray, List.set_cons_zero, List.set_cons_succ]
    refine rtake (i := 11) (d := (some 25)) (v := ?_) rfl (by kernel_rfl) (by kernel_rfl) (by kernel_rfl) (by kernel_rfl) (fun _ _ _ h => h) (by kernel_rfl) (by assumption) ?_ ?_
    rotate_left 1
    · (intro wI hSI; (try dsimp only at hSI); go_simp; (try with_reducible rfl))
    simp only [Act.put, List.setIfInBounds_toArray, List.set_cons_zero, List.set_cons_succ]
    refine rtake (i := 12) (d := (some 26)) (v := ?_) rfl (by kernel_rfl) (by kernel_rfl) (by kernel_rfl) (by kernel_rfl) (fun _ _ _ h => h) (by kernel_rfl) (by assumption) ?_ ?_
    rotate_left 1
    · (intro wI hSI; (try dsimp only at hSI); go_simp; (try with_reducible rfl))
    simp only [Act.put, List.setIfInBounds_toArray, List.set_cons_zero, List.set_cons_succ]
    refine rtake (i := 13) (d := (some 27)) (v := ?_) rfl (by kernel_rfl) (by kernel_rfl) (by kernel_rfl) (by kernel_rfl) (fun _ _ _ h => h) (by kernel_rfl) (by assumption) ?_ ?_
    rotate_left 1
    · (intro wI hSI; (try dsimp only at hSI); go_simp; (try with_reducible rfl))
    simp only [Act.put, List.setIfInBounds_toArray, List.set_cons_zero, List.set_cons_succ]
    refine rtake (i := 14) (d := (some 28)) (v := ?_) rfl (by kernel_rfl) (by kernel_rfl) (by kernel_rfl) (by kernel_rfl) (fun _ _ _ h => h) (by kernel_rfl) (by assumption) ?_ ?_
    rotate_left 1
    · (intro wI hSI; (try dsimp only at hSI); go_simp; (try with_reducible rfl))
    simp only [Act.put, List.setIfInBounds_toArray, List.set_cons_zero, List.set_cons_succ]
    refine rtake (i := 15) (d := (some 29)) (v := ?_) rfl (by kernel_rfl) (by kernel_rfl) (by kernel_rfl) (by kernel_rfl) (fun _ _ _ h => h) (by kernel_rfl) (by assumption) ?_ ?_
    rotate_left 1
    · (intro wI hSI; (try dsimp only at hSI); go_simp; (try with_reducible rfl))
    simp only [Act.put, List.setIfInBounds_toArray, List.set_cons_zero, List.set_cons_succ]
    refine rtake (i := 16) (d := (some 30)) (v := ?_) rfl (by kernel_rfl) (by kernel_rfl) (by kernel_rfl) (by kernel_rfl) (fun _ _ _ h => h) (by kernel_rfl) (by assumption) ?_ ?_
    rotate_left 1
    · (intro wI hSI; (try dsimp only at hSI); go_simp; (try with_reducible rfl))
    simp only [Act.put, List.setIfInBounds_toArray, List.set_cons_zero, List.set_cons_succ]
    refine rtake (i := 17) (d := (some 31)) (v := ?_) rfl (by kernel_rfl) (by kernel_rfl) (by kernel_rfl) (by kernel_rfl) (fun _ _ _ h => h) (by kernel_rfl) (by assumption) ?_ ?_
    rotate_left 1
    · (intro wI hSI; (try dsimp only at hSI); go_simp; (try with_reducible rfl))
    simp only [Act.put, List.setIfInBounds_toArray, List.set_cons_zero, List.set_cons_succ]
    refine rtake (i := 18) (d := (some 32)) (v := ?_) rfl (by kernel_rfl) (by kernel_rfl) (by kernel_rfl) (by kernel_rfl) (fun _ _ _ h => h) (by kernel_rfl) (by assumption) ?_ ?_
    rotate_left 1
    · (intro wI hSI; (try dsimp only at hSI); go_simp; (try with_reducible rfl))
    simp only [Act.put, List.setIfInBounds_toArray, List.set_cons_zero, List.set_cons_succ]
    refine rtake (i := 19) (d := (some 33)) (v := ?_) rfl (by kernel_rfl) (by kernel_rfl) (by kernel_rfl) (by kernel_rfl) (fun _ _ _ h => h) (by kernel_rfl) (by assumption) ?_ ?_
    rotate_left 1
    · (intro wI hSI; (try dsimp only at hSI); go_simp; (try with_reducible rfl))
    simp only [Act.put, List.setIfInBounds_toArray, List.set_cons_zero, List.set_cons_succ]
    refine rtake (i := 20) (d := (some 34)) (v := ?_) rfl (by kernel_rfl) (by kernel_rfl) (by kernel_rfl) (by kernel_rfl) (fun _ _ _ h => h) (by kernel_rfl) (by assumption) ?_ ?_
    rotate_left 1
    · (intro wI hSI; (try dsimp only at hSI); go_simp; (try with_reducible rfl))
    simp only [Act.put, List.setIfInBounds_toArray, List.set_cons_zero, List.set_cons_succ]
    refine rtake (i := 21) (d := (some 35)) (v := ?_) rfl (by kernel_rfl) (by kernel_rfl) (by kernel_rfl) (by kernel_rfl) (fun _ _ _ h => h) (by kernel_rfl) (by assumption) ?_ ?_
    rotate_left 1
    · (intro wI hSI; (try dsimp only at hSI); go_simp; (try with_reducible rfl))
    simp only [Act.put, List.setIfInBounds_toArray, List.set_cons_zero, List.set_cons_succ]
    refine rtake (i := 22) (d := (some 36)) (v := ?_) rfl (by kernel_rfl) (by kernel_rfl) (by kernel_rfl) (by kernel_rfl) (fun _ _ _ h => h) (by kernel_rfl) (by assumption) ?_ ?_
    rotate_left 1
    · (intro wI hSI; (try dsimp only at hSI); go_simp; (try with_reducible rfl))
    simp only [Act.put, List.setIfInBounds_toArray, List.set_cons_zero, List.set_cons_succ]
    refine rtake (i := 23) (d := (some 37)) (v := ?_) rfl (by kernel_rfl) (by kernel_rfl) (by kernel_rfl) (by kernel_rfl) (fun _ _ _ h => h) (by kernel_rfl) (by assumption) ?_ ?_
    rotate_left 1
    · (intro wI hSI; (try dsimp only at hSI); go_simp; (try with_reducible rfl))
    simp only [Act.put, List.setIfInBounds_toArray, List.set_cons_zero, List.set_cons_succ]
    refine rtake (i := 24) (d := (some 38)) (v := ?_) rfl (by kernel_rfl) (by kernel_rfl) (by kernel_rfl) (by kernel_rfl) (fun _ _ _ h => h) (by kernel_rfl) (by assumption) ?_ ?_
    rotate_left 1
    · (intro wI hSI; (try dsimp only at hSI); go_simp; (try with_reducible rfl))
    simp only [Act.put, List.setIfInBounds_toArray, List.set_cons_zero, List.set_cons_succ]
    refine rtake (i := 25) (d := (some 39)) (v := ?_) rfl (by kernel_rfl) (by kernel_rfl) (by kernel_rfl) (by kernel_rfl) (fun _ _ _ h => h) (by kernel_rfl) (by assumption) ?_ ?_
    rotate_left 1
    · (intro wI hSI; (try dsimp only at hSI); go_simp; (try with_reducible rfl))
    simp only [Act.put, List.setIfInBounds_toArray, List.set_cons_zero, List.set_cons_succ]
    refine rtake (i := 26) (d := (some 40)) (v := ?_) rfl (by kernel_rfl) (by kernel_rfl) (by kernel_rfl) (by kernel_rfl) (fun _ _ _ h => h) (by kernel_rfl) (by assumption) ?_ ?_
    rotate_left 1
    · (intro wI hSI; (try dsimp only at hSI); go_simp; (try with_reducible rfl))
    simp only [Act.put, List.setIfInBounds_toArray, List.set_cons_zero, List.set_cons_succ]
    refine rtake (i := 27) (d := (some 41)) (v := ?_) rfl (by kernel_rfl) (by kernel_rfl) (by kernel_rfl) (by kernel_rfl) (fun _ _ _ h => h) (by kernel_rfl) (by assumption) ?_ ?_
    rotate_left 1
    · (intro wI hSI; (try dsimp only at hSI); go_simp; (try with_reducible rfl))
    simp only [Act.put, List.setIfInBounds_toArray, List.set_cons_zero, List.set_cons_succ]
    refine rtake (i := 28) (d := (some 42)) (v := ?_) rfl (by kernel_rfl) (by kernel_rfl) (by kernel_rfl) (by kernel_rfl) (fun _ _ _ h => h) (by kernel_rfl) (by assumption) ?_ ?_
    rotate_left 1
    · (intro wI hSI; (try dsimp only at hSI); go_simp; (try with_reducible rfl))
    simp only [Act.put, List.setIfInBounds_toArray, List.set_cons_zero, List.set_cons_succ]
    refine rtake (i := 29) (d := (some 43)) (v := ?_) rfl (by kernel_rfl) (by kernel_rfl) (by kernel_rfl) (by kernel_rfl) (fun _ _ _ h => h) (by kernel_rfl) (by assumption) ?_ ?_
    rotate_left 1
    · (intro wI hSI; (try dsimp only at hSI); go_simp; (try with_reducible rfl))
    simp only [Act.put, List.setIfInBounds_toArray, List.set_cons_zero, List.set_cons_succ]
    refine rtake (i := 30) (d := (some 44)) (v := ?_) rfl (by kernel_rfl) (by kernel_rfl) (by kernel_rfl) (by kernel_rfl) (fun _ _ _ h => h) (by kernel_rfl) (by assumption) ?_ ?_
    rotate_left 1
    · (intro wI hSI; (try dsimp only at hSI); go_simp; (try with_reducible rfl))
    simp only [Act.put, List.setIfInBounds_toArray, List.set_cons_zero, List.set_cons_succ]
    refine rtake (i := 31) (d := (some 45)) (v := ?_) rfl (by kernel_rfl) (by kernel_rfl) (by kernel_rfl) (by kernel_rfl) (fun _ _ _ h => h) (by kernel_rfl) (by assumption) ?_ ?_
    rotate_left 1
    · (intro wI hSI; (try dsimp only at hSI); go_simp; (try with_reducible rfl))
    simp only [Act.put, List.setIfInBounds_toArray, List.set_cons_zero, List.set_cons_succ]
    refine rcall (i := 32) (d := (some 46)) (by kernel_rfl) rfl (by kernel_rfl) (fun K hK => ?_)
    go_simp
    go_at_call 125; refine (HSC.out _).mono ?_; rintro e wa ⟨rfl, rfl⟩
    refine hK.out _ _ ?hS (fun hHeld => ?_)
    case hS => exact hHeld
    clear hK K
    simp only [Act.put, List.setIfInBounds_toArray, List.set_cons_zero, List.set_cons_succ]
    have hbl : Below W2.drew.heap.size W2.drew (W2.drew.alloc (.cells #[.int .i64 (y1 * x2 - x1 * y2), .int .i64 (y3 * x4 - x3 * y4), .int .i64 cs] 3)) := (Below.refl _ _).alloc (Nat.le_refl _) _
    have hbo := Box.new W2.drew 3 #[.int .i64 (y1 * x2 - x1 * y2), .int .i64 (y3 * x4 - x3 * y4), .int .i64 cs]
    refine rcall (i := 33) (d := (some 47)) (by kernel_rfl) rfl (by kernel_rfl) (fun K hK => ?_)
    go_simp
    refine hK.out _ _ ?hS (fun hHeld => ?_)
    case hS => exact ⟨cell_later hbl hHeld.1, cell_later hbl hHeld.2.1, cell_later hbl hHeld.2.2.1, cell_later hbl hHeld.2.2.2.1, cell_later hbl hHeld.2.2.2.2.1, cell_later hbl hHeld.2.2.2.2.2.1, cell_later hbl hHeld.2.2.2.2.2.2.1, cell_later hbl hHeld.2.2.2.2.2.2.2⟩
    clear hK K
    simp only [Act.put, List.setIfInBounds_toArray, List.set_cons_zero, List.set_cons_succ]
    refine rcall (i := 34) (d := (some 48)) (by kernel_rfl) rfl (by kernel_rfl) (fun K hK => ?_)
    go_simp
    go_at_call 122; refine (or_any [y1 * x2 - x1 * y2, y3 * x4 - x3 * y4, cs] _ 3 _ (hbo.sa [y1 * x2 - x1 * y2, y3 * x4 - x3 * y4, cs] rfl) (by simp)).mono ?_; rintro e wc ⟨rfl, rfl⟩
    refine hK.out _ _ ?hS (fun hHeld => ?_)
    case hS => exact hHeld
    clear hK K
    simp only [Act.put, List.setIfInBounds_toArray, List.set_cons_zero, List.set_cons_succ]
    refine rtake (i := 35) (d := (some 5)) (v := ?_) rfl (by kernel_rfl) (by kernel_rfl) (by kernel_rfl) (by kernel_rfl) (fun _ _ _ h => h) (by kernel_rfl) (by assumption) ?_ ?_
    rotate_left 1
    · (intro wI hSI; (try dsimp only at hSI); go_simp; (try with_reducible rfl))
    simp only [Act.put, List.setIfInBounds_toArray, List.set_cons_zero, List.set_cons_succ]
    refine wpAnyH_done (by kernel_rfl) ?_ _
    have hfin := below_next hbw.drew hbl
    go_wp2_with fail
    go_ret
    exact ⟨by rw [HC.out] <;> rfl, hfin⟩
end Go.Proofs.YtgihommenknhoaaGreatDoor

/-! How the reference orders papers: RankedOf; both orders are the same. -/
namespace Go.Proofs.YtgihommenknhoaaGreatDoor
open Go.RowKit Go.Sort
set_option linter.unusedVariables false
set_option linter.unusedSimpArgs false

theorem KeyEnv.kpm {Bh Bl Bp Bw : Nat} {how : Int} {a : Option Addr} {cap : Nat} {l : List Mark} {aK : Option Addr} {capK : Nat} {ks : List ByteArray} {aw : Option Addr} {capw : Nat} {W W' : World} {b : Nat} {es : List (ByteArray × Value)} (h : KeyEnv Bh Bl Bp Bw how a cap l aK capK ks aw capw W) (hm : MBox W b es) (hk : Kp (· = b) W W') : KeyEnv Bh Bl Bp Bw how a cap l aK capK ks aw capw W' := by
  have cell : ∀ {B : Nat} {v : Value}, W.cell? ⟨B, 0, none⟩ = some v → W'.cell? ⟨B, 0, none⟩ = some v := fun {B v} hc => by
    have hB : B ≠ b := by
      rintro rfl
      obtain ⟨e1, c1, h1, _⟩ := hm
      simp [World.cell?, h1] at hc
    rw [World.cell?_of_block (w := W) (a := ⟨B, 0, none⟩) (hk.block B (cell_lt hc) hB)]; exact hc
  exact ⟨cell h.ch, cell h.cl, cell h.cp, cell h.cw, h.sl.kpm hm hk, h.sk.kpm hm hk, h.sw.kpm hm hk⟩
theorem valR_bd {l : List Mark} (h : marksFault l = 0) (hl : l.length ≤ 400) (how : Int) {p : ByteArray} (hp : ofP l p ≠ []) : ok4R (valR l how p) := by
  have hb := valF_bd h hl how hp
  unfold valR ok4R
  split
  · exact ⟨⟨hb.1.1, by omega, hb.1.2.2⟩, hb.2.1, by omega, hb.2.2.2⟩
  · exact ⟨⟨hb.1.1, by simp only; omega, hb.1.2.2⟩, by simp⟩
/-- The reference's comparison of papers. -/
def cmpR (f : ByteArray → V4) (x y : ByteArray) : Int := cmpR4 (f x) (f y) x y
theorem firstOf_neg (a b c : Int) (hc : 0 < c) : firstOf [a, b, c] < 0 ↔ a < 0 ∨ (a = 0 ∧ b < 0) := by
  by_cases ha : a = 0
  · by_cases hb : b = 0
    · have : firstOf [a, b, c] = c := by unfold firstOf; rw [if_neg (by simpa using ha)]; unfold firstOf; rw [if_neg (by simpa using hb)]; unfold firstOf; rw [if_pos (by omega)]
      rw [this]; omega
    · have : firstOf [a, b, c] = b := by unfold firstOf; rw [if_neg (by simpa using ha)]; unfold firstOf; rw [if_pos hb]
      rw [this]; omega
  · have : firstOf [a, b, c] = a := by unfold firstOf; rw [if_pos ha]
    rw [this]; omega
theorem cmpI_neg (a b : Int) : cmpI a b < 0 ↔ a < b := by unfold cmpI; split; omega; split <;> omega
theorem cmpI_zero (a b : Int) : cmpI a b = 0 ↔ a = b := by unfold cmpI; split; omega; split <;> omega
/-- Both orders are the same. -/
theorem order_same (l : List Mark) (how : Int) : isort (cmpR (valR l how)) (keysOf (fun x => x.1) l) = orderL l how := by
  unfold orderL
  refine isort_same _ _ _ (keysS_rise _).nodup fun i q hi hq => ?_
  have hlt : ltS ((keysOf (fun x => x.1) l)[q]'(by omega)) (keysOf (fun x => x.1) l)[i] := List.pairwise_iff_getElem.1 (keysS_rise (l.map (fun x => x.1))) q i _ _ hq
  generalize (keysOf (fun x => x.1) l)[i] = x at *
  generalize (keysOf (fun x => x.1) l)[q]'(by omega) = y at *
  have hc : 0 < cmpS x y := cmpS_gt.2 hlt
  unfold cmpR cmpR4 cmpV
  rw [firstOf_neg _ _ _ hc]
  have e1 : ∀ p, (valR l how p).1 = (valF l how p).1 ∧ (valR l how p).2.1 = (valF l how p).2.1 := fun p => by unfold valR; split <;> exact ⟨rfl, rfl⟩
  rw [(e1 x).1, (e1 x).2, (e1 y).1, (e1 y).2]
  have e2 : (valR l how y).2.2.1 * (valR l how x).2.2.2 - (valR l how x).2.2.1 * (valR l how y).2.2.2 < 0 ↔ (valF l how y).2.2.1 * (valF l how x).2.2.2 < (valF l how x).2.2.1 * (valF l how y).2.2.2 := by
    by_cases hh : how = 2
    · unfold valR
      rw [if_pos hh, if_pos hh]
      omega
    · unfold valR
      rw [if_neg hh, if_neg hh]
      simp only
      have hz : ∀ p, (valF l how p).2.2.1 = 0 := fun p => by
        unfold valF
        by_cases h1 : how = 1
        · rw [if_pos h1]
        · rw [if_neg h1, if_neg hh]
          by_cases h3 : how = 3
          · rw [if_pos h3]
          · rw [if_neg h3]
            by_cases h4 : how = 4
            · rw [if_pos h4]
            · rw [if_neg h4]
      rw [hz, hz]
      omega
  rw [e2]
  generalize (valF l how y).1 * (valF l how x).2.1 = A at *
  generalize (valF l how x).1 * (valF l how y).2.1 = B at *
  generalize (valF l how y).2.2.1 * (valF l how x).2.2.2 = C at *
  generalize (valF l how x).2.2.1 * (valF l how y).2.2.2 = D at *
  by_cases hz : cmpI A B = 0
  · rw [if_neg (by simpa using hz), cmpI_neg]
    have := (cmpI_zero A B).1 hz
    omega
  · rw [if_pos hz, cmpI_neg]
    have : A ≠ B := fun h => hz ((cmpI_zero A B).2 h)
    omega

set_option maxRecDepth 100000 in
set_option maxHeartbeats 2000000 in
theorem rankedOf_any (l : List Mark) (a : Option Addr) (cap : Nat) (how : Int) (w : World) (hs : SA w a l) (hl : l.length ≤ 400) (h0 : marksFault l = 0) (hh1 : 1 ≤ how) (hh2 : how ≤ 5) (hkn : (keysOf (fun x => x.1) l).length ≤ 19) :
    Calls Tryz.prog 67 #[.slice a l.length cap, .int .i64 how] w (GivesOwn 9 (orderL l how) w) := by
  obtain ⟨out, hout⟩ : ∃ out, orderL l how = out := ⟨_, rfl⟩
  rw [hout]
  rw [← order_same] at hout
  obtain ⟨ks, hkk⟩ : ∃ ks, keysOf (fun x => x.1) l = ks := ⟨_, rfl⟩
  obtain ⟨f, hff⟩ : ∃ f, valR l how = f := ⟨_, rfl⟩
  have HOk : Hid (∀ p ∈ ks, ok4R (f p)) := fun p hp => by
    rw [← hff]
    refine valR_bd h0 hl how fun h => ?_
    rw [← hkk, keysOf_mem] at hp
    exact sel_nil.1 h hp
  rw [hkk, hff] at hout
  rw [hkk] at hkn
  have HO := Lib.hid hout
  have hok := fault_scores h0
  have HKC : Hid (∀ Bh Bl Bp Bw aK capK aw capw W p, KeyEnv Bh Bl Bp Bw how a cap l aK capK ks aw capw W → p ∈ ks → Calls Tryz.prog 130 #[.string p, .pointer (some ⟨Bh, 0, none⟩), .pointer (some ⟨Bl, 0, none⟩), .pointer (some ⟨Bp, 0, none⟩), .pointer (some ⟨Bw, 0, none⟩)] W (Gives (valV (f p)) W)) := fun Bh Bl Bp Bw aK capK aw capw W p hE hp => by
    rw [← hff]; exact keyClo_any Bh Bl Bp Bw how a cap l aK capK ks aw capw W hE h0 hl hkk hh1 hh2 p hp
  have HMP := Lib.hid (fun W (h : SA W a l) => MarkedPapers_any l a cap W h (by omega))
  have HBO := Lib.hid (fun W (h : SA W a l) => balancedOf_any l a cap 20 W h hok (by omega) (by omega))
  rw [hkk] at HMP HBO
  have hmm := @run_makeMap Tryz.prog
  have hL := (Box.new w 26 #[.slice a l.length cap]).alloc (.cells #[.int .i64 how] 3)
  have hH := Box.newAt (w.alloc (.cells #[.slice a l.length cap] 26)) (w.heap.size + 1) 3 #[.int .i64 how] (by simp)
  have hb0 : Below w.heap.size w ((w.alloc (.cells #[.slice a l.length cap] 26)).alloc (.cells #[.int .i64 how] 3)) := by (repeat' (first | exact Below.refl _ _ | assumption | refine Below.setCell ?_ ?_ _ | refine below_drewN ?_ _ | refine Below.drew ?_ | refine Below.alloc ?_ ?_ _ | (with_reducible refine Below.trans ?_ (Below.mono hb ?_)) | (with_reducible refine Below.trans ?_ (Below.mono hb0 ?_)) | (with_reducible refine Below.trans ?_ (Below.mono hb1 ?_)) | (with_reducible refine Below.trans ?_ (Below.mono hb2 ?_)) | (with_reducible refine Below.trans ?_ (Below.mono hb3 ?_)) | (with_reducible refine Below.trans ?_ (Below.mono hb4 ?_)) | (with_reducible refine Below.trans ?_ (Below.mono hb5 ?_)) | (with_reducible refine Below.trans ?_ (Below.mono hb6 ?_)) | (with_reducible refine Below.trans ?_ (Below.mono hb7 ?_)) | (with_reducible refine Below.trans ?_ (Below.mono hb8 ?_)) | (with_reducible refine Below.trans ?_ (Below.mono hb9 ?_)) | (with_reducible refine Below.trans ?_ (Below.mono hb10 ?_)) | (with_reducible refine Below.trans ?_ (Below.mono hb11 ?_)) | (with_reducible refine Below.trans ?_ (Below.mono hb12 ?_)) | (with_reducible refine Below.trans ?_ (Below.mono hb13 ?_)) | (with_reducible refine Below.trans ?_ (Below.mono hb14 ?_)) | (with_reducible refine Below.trans ?_ (Below.mono hb15 ?_)) | omega | (simp; done) | (simp; omega)))
  have hs0 := hs.below hb0
  have hz0 : ((w.alloc (.cells #[.slice a l.length cap] 26)).alloc (.cells #[.int .i64 how] 3)).heap.size = w.heap.size + 2 := by simp
  clear hout hff hkk hok h0 hs
  generalize hW0 : (w.alloc (.cells #[.slice a l.length cap] 26)).alloc (.cells #[.int .i64 how] 3) = W0 at *
  have hLc := hL.cell 0
  simp at hLc
  go_enter Tryz.func67, Tryz.ntmps67
  go_upto_region 1 with (fail)
  (try simp only [hW0])
  clear hW0
  go_wp2_with fail
  refine (HMP.out _ hs0).mono ?_
  rintro e wk ⟨vk, rfl, hownk, hbk⟩
  obtain ⟨aK, capK, rfl, hsaK, hbK, _⟩ := hownk.sa
  have hzk := hbk.size
  have HvK := Lib.hid hownk.lt
  have hs1 := (hs0.below hbk).alloc (.cells #[.slice aK ks.length capK] 36)
  have hown1 := hownk.alloc (.cells #[.slice aK ks.length capK] 36)
  have hsK1 := hsaK.alloc (.cells #[.slice aK ks.length capK] 36)
  have hL1 := (hL.below hbk).alloc (.cells #[.slice aK ks.length capK] 36)
  have hH1 := (hH.below hbk).alloc (.cells #[.slice aK ks.length capK] 36)
  have hP1 := Box.new wk 36 #[.slice aK ks.length capK]
  have hb1 : Below w.heap.size w (wk.alloc (.cells #[.slice aK ks.length capK] 36)) := (below_next hb0 hbk).alloc (below_next hb0 hbk).size _
  have hzP : W0.heap.size ≤ wk.heap.size := hzk
  clear hs0 hownk hL hH hb0 hbk hsaK hbK hLc
  go_upto_region 2 with (fail)
  generalize wk.alloc (.cells #[.slice aK ks.length capK] 36) = W1 at *
  generalize wk.heap.size = Bp at *
  have hLc := hL1.cell 0
  simp at hLc
  go_wp2_with fail
  refine (HBO.out _ hs1).mono ?_
  rintro e wb ⟨v1, v2, rfl, hv1, hv2, hbb⟩
  obtain ⟨aw, capw, rfl, hsw, _, _⟩ := hv1.sa
  rw [List.length_map] at *
  have hs2 := (hs1.below hbb).alloc (.cells #[.slice aw ks.length capw] 168)
  have hown2 := (hown1.below hbb).alloc (.cells #[.slice aw ks.length capw] 168)
  have hL2 := (hL1.below hbb).alloc (.cells #[.slice aw ks.length capw] 168)
  have hH2 := (hH1.below hbb).alloc (.cells #[.slice aw ks.length capw] 168)
  have hP2 := (hP1.below hbb).alloc (.cells #[.slice aw ks.length capw] 168)
  have hQ2 := Box.new wb 168 #[.slice aw ks.length capw]
  have hsK2 := (hsK1.below hbb).alloc (.cells #[.slice aw ks.length capw] 168)
  have hsw2 := hsw.alloc (.cells #[.slice aw ks.length capw] 168)
  have hb2 : Below w.heap.size w (wb.alloc (.cells #[.slice aw ks.length capw] 168)) := (below_next hb1 hbb).alloc (below_next hb1 hbb).size _
  have hzb := hbb.size
  have hzP1 := hP1.lt
  clear hs1 hsK1 hown1 hL1 hH1 hP1 hb1 hbb hsw hv1 hv2 hLc HBO HMP
  go_upto_region 3 with (fail)
  generalize wb.alloc (.cells #[.slice aw ks.length capw] 168) = W2 at *
  generalize wb.heap.size = Bw at *
  have hMn := MBox.new W2
  have hbB := (hb2.alloc hb2.size (.map #[] 0)).alloc (by have := hb2.size; simp; omega) (.cells #[.map (some W2.heap.size)] 180)
  have hM3 := hMn.alloc (.cells #[.map (some W2.heap.size)] 180)
  have hT3 := Box.newAt (W2.alloc (.map #[] 0)) (W2.heap.size + 1) 180 #[.map (some W2.heap.size)] (by simp)
  have hown3 := (hown2.alloc (.map #[] 0)).alloc (.cells #[.map (some W2.heap.size)] 180)
  have hE3 : KeyEnv (w.heap.size + 1) w.heap.size Bp Bw how a cap l aK capK ks aw capw ((W2.alloc (.map #[] 0)).alloc (.cells #[.map (some W2.heap.size)] 180)) :=
    KeyEnv.below ⟨hH2.cell 0, hL2.cell 0, hP2.cell 0, hQ2.cell 0, hs2, hsK2, hsw2⟩ (by (repeat' (first | exact Below.refl _ _ | assumption | refine Below.setCell ?_ ?_ _ | refine below_drewN ?_ _ | refine Below.drew ?_ | refine Below.alloc ?_ ?_ _ | (with_reducible refine Below.trans ?_ (Below.mono hb ?_)) | (with_reducible refine Below.trans ?_ (Below.mono hb0 ?_)) | (with_reducible refine Below.trans ?_ (Below.mono hb1 ?_)) | (with_reducible refine Below.trans ?_ (Below.mono hb2 ?_)) | (with_reducible refine Below.trans ?_ (Below.mono hb3 ?_)) | (with_reducible refine Below.trans ?_ (Below.mono hb4 ?_)) | (with_reducible refine Below.trans ?_ (Below.mono hb5 ?_)) | (with_reducible refine Below.trans ?_ (Below.mono hb6 ?_)) | (with_reducible refine Below.trans ?_ (Below.mono hb7 ?_)) | (with_reducible refine Below.trans ?_ (Below.mono hb8 ?_)) | (with_reducible refine Below.trans ?_ (Below.mono hb9 ?_)) | (with_reducible refine Below.trans ?_ (Below.mono hb10 ?_)) | (with_reducible refine Below.trans ?_ (Below.mono hb11 ?_)) | (with_reducible refine Below.trans ?_ (Below.mono hb12 ?_)) | (with_reducible refine Below.trans ?_ (Below.mono hb13 ?_)) | (with_reducible refine Below.trans ?_ (Below.mono hb14 ?_)) | (with_reducible refine Below.trans ?_ (Below.mono hb15 ?_)) | omega | (simp; done) | (simp; omega))))
  have hzM : w.heap.size ≤ W2.heap.size := hb2.size
  have hzQ : Bw < W2.heap.size := hQ2.lt
  have hc0 : ((W2.alloc (.map #[] 0)).alloc (.cells #[.map (some W2.heap.size)] 180)).cell? ⟨Bp, 0, none⟩ = some (.slice aK ks.length capK) := hE3.cp
  clear hMn hsK2 hL2 hH2 hP2 hQ2 hs2 hsw2 hb2
  go_upto_region 5 with (fail)
  generalize (W2.alloc (.map #[] 0)).alloc (.cells #[.map (some W2.heap.size)] 180) = W3 at *
  go_wp2_with fail
  go_loopg [23] ks.length (fun gk i wr => ∃ k : Nat, i = .int .i64 k ∧ k ≤ ks.length ∧ Hid (gk = ks.length - k) ∧ MBox wr W2.heap.size (vE f (ks.take k)) ∧ Box wr (W2.heap.size + 1) 180 #[.map (some W2.heap.size)] ∧ Own W0.heap.size 9 wr (.slice aK ks.length capK) ks ∧ KeyEnv (w.heap.size + 1) w.heap.size Bp Bw how a cap l aK capK ks aw capw wr ∧ Below w.heap.size w wr)
  case atStart => exact ⟨0, rfl, by omega, rfl, hM3, hT3, hown3, hE3, hbB⟩
  clear hM3 hT3 hown3 hE3 hbB hc0 hown2
  obtain ⟨k, rfl, hk, hgk, hM, hT, hown, hE, hb⟩ := hrel
  have hzr := hb.size
  by_cases hlt : k < ks.length
  · obtain ⟨kb, koff, haK, ck⟩ := hE.sk.str hlt
    have htake := List.take_succ_eq_append_getElem hlt
    have Hsn := Lib.hid (vE_snoc f (ks.take k) ks[k])
    rw [← htake] at Hsn
    have HaK := Lib.hid haK
    have HKq := Lib.hid (fun W hE => HKC.out (w.heap.size + 1) w.heap.size Bp Bw aK capK aw capw W ks[k] hE (List.getElem_mem hlt))
    have HEr := Lib.hid hE
    have HOr := Lib.hid hown
    clear hE hown
    rw [haK]
    clear haK htake
    generalize vE f (ks.take k) = es at *
    generalize ks[k] = p at *
    generalize valV (f p) = vv at *
    have hTc := hT.cell 0
    simp at hTc
    go_wp2_with fail
    refine wp_region_held_drew (S := (fun wx => wx.cell? ⟨W2.heap.size + 1, 0, none⟩ = some (.map (some W2.heap.size)) ∧ KeyEnv (w.heap.size + 1) w.heap.size Bp Bw how a cap l aK capK ks aw capw wx ∧ Own W0.heap.size 9 wx (.slice aK ks.length capK) ks ∧ Below w.heap.size w wx)) (by kernel_rfl) ?hS (fun hHeld => ?_)
    case hS => exact ⟨hTc, HEr.out.below (Below.refl _ _).drew, HOr.out.drew, hb.drew⟩
    refine rtake (i := 0) (d := (some 27)) (v := ?_) rfl (by kernel_rfl) (by kernel_rfl) (by kernel_rfl) (by kernel_rfl) (fun _ _ _ h => h) (by kernel_rfl) (by assumption) ?_ ?_
    rotate_left 1
    · (intro wI hSI; (try dsimp only at hSI); go_simp; (try with_reducible rfl))
    simp only [Act.put, List.setIfInBounds_toArray, List.set_cons_zero, List.set_cons_succ]
    refine rtake (i := 1) (d := (some 28)) (v := ?_) rfl (by kernel_rfl) (by kernel_rfl) (by kernel_rfl) (by kernel_rfl) (fun _ _ _ h => h) (by kernel_rfl) (by assumption) ?_ ?_
    rotate_left 1
    · (intro wI hSI; (try dsimp only at hSI); go_simp; (try with_reducible rfl))
    simp only [Act.put, List.setIfInBounds_toArray, List.set_cons_zero, List.set_cons_succ]
    refine rtake (i := 2) (d := (some 29)) (v := ?_) rfl (by kernel_rfl) (by kernel_rfl) (by kernel_rfl) (by kernel_rfl) (fun _ _ _ h => h) (by kernel_rfl) (by assumption) ?_ ?_
    rotate_left 1
    · (intro wI hSI; (try dsimp only at hSI); go_simp; (try with_reducible rfl))
    simp only [Act.put, List.setIfInBounds_toArray, List.set_cons_zero, List.set_cons_succ]
    refine rtake (i := 3) (d := (some 30)) (v := ?_) rfl (by kernel_rfl) (by kernel_rfl) (by kernel_rfl) (by kernel_rfl) (fun _ _ _ h => h) (by kernel_rfl) (by assumption) ?_ ?_
    rotate_left 1
    · (intro wI hSI; (try dsimp only at hSI); go_simp; (try with_reducible rfl))
    simp only [Act.put, List.setIfInBounds_toArray, List.set_cons_zero, List.set_cons_succ]
    refine rcall (i := 4) (d := (some 31)) (by kernel_rfl) rfl (by kernel_rfl) (fun K hK => ?_)
    go_simp
    go_at_call 130; refine (HKq.out _ hHeld.2.1).mono ?_; rintro e wa ⟨rfl, hba⟩
    refine hK.out _ _ ?hS (fun hHeld => ?_)
    case hS => exact ⟨cell_later hba hHeld.1, hHeld.2.1.below hba, hHeld.2.2.1.below hba, below_next hHeld.2.2.2 hba⟩
    clear hK K
    simp only [Act.put, List.setIfInBounds_toArray, List.set_cons_zero, List.set_cons_succ]
    have hMx := hM.drew.below hba
    have hTx := hT.drew.below hba
    have hbM : W2.heap.size < wa.heap.size := hMx.lt
    have hOx := hHeld.2.2.1
    have hEx := hHeld.2.1
    have hbx := hHeld.2.2.2
    refine rcall (i := 5) (d := none) (by kernel_rfl) rfl (by kernel_rfl) (fun K hK => ?_)
    refine step_mapUpdate_box rfl _ _ _ _ rfl _ _ Tryz.underlying180 Tryz.underlying9 W2.heap.size _ rfl hMx p rfl vv rfl ?_; intro W5 hM5 hg5 hs5; have hk5 : Kp (· = W2.heap.size) wa W5 := (Kp.refl _ _).grown hg5 (fun j hj => .inl (Option.some.inj hj).symm); have hE5 := hEx.kpm hMx hk5; have hT5 := hTx.kp hk5 (by omega); have hb5 : Below w.heap.size w W5 := below_kp hbx hk5 (by rintro k rfl; omega) hbx.size
    refine hK.out undef _ ?hS (fun hHeld => ?_)
    case hS => exact ⟨hT5.cell 0, hE5, hOx.kp hk5 (fun j hj => by have := (HvK.out j hj).2; omega), hb5⟩
    clear hK K
    simp only [Act.put, List.setIfInBounds_toArray, List.set_cons_zero, List.set_cons_succ]
    refine wpAnyH_done (by kernel_rfl) ?_ _
    obtain ⟨_, hE6, hO6, hb6⟩ := hHeld
    clear hMx hTx hOx hEx hbx hg5 hba hM hb
    go_wp2_with fail
    rw [← HaK.out]
    go_roundg (ks.length - (k + 1))
    case measure => have := hgk.out; omega
    case rel => exact ⟨k + 1, by go_num, by omega, rfl, by rw [Hsn.out]; exact hM5, hT5, hO6, hE6, hb6⟩
  · obtain rfl : k = ks.length := by omega
    rw [List.take_length] at hM
    have hE0 := hE
    have hvk := HvK.out
    have hcmp : ∀ gs, (Value.slice aK ks.length capK).ownBlock = some gs → CmpAt 137 #[.pointer (some ⟨W2.heap.size + 1, 0, none⟩)] (cmpR f) ks gs wr := fun gs hgs W x y hx hy hk => by
      have hg := hvk gs hgs
      have hml := hM.lt
      refine rankClo_any (W2.heap.size + 1) W2.heap.size (vE f ks) x y (f x) (f y) W ?_ (hM.same (hk.block _ hM.lt (by omega))) (vE_get f hx) (vE_get f hy) (HOk.out x hx) (HOk.out y hy)
      exact (hT.kp hk (by omega)).cell 0
    have HSS := Lib.hid (sortStable_any W0.heap.size ks (.slice aK ks.length capK) 137 #[.pointer (some ⟨W2.heap.size + 1, 0, none⟩)] (cmpR f) wr (enters_of Tryz.func137 (by kernel_rfl) rfl) hcmp hown hkn)
    rw [HO.out] at HSS
    have Hvk := Lib.hid hvk
    have hcp := hE.cp
    clear hlt hcmp hown hM hT hvk hE hE0
    go_wp2_with fail
    refine HSS.out.mono ?_
    rintro e wz ⟨rfl, hownz, hkz⟩
    have hcz : wz.cell? ⟨Bp, 0, none⟩ = some (.slice aK ks.length capK) := by
      rw [World.cell?_of_block (w := wr) (a := ⟨Bp, 0, none⟩) (hkz.block Bp (cell_lt hcp) (fun e => by have := (Hvk.out Bp e).2; omega))]
      exact hcp
    have hbz : Below w.heap.size w wz := below_kp hb hkz (fun k hk => by have := (Hvk.out k hk).1; omega) hb.size
    go_wp2_with fail
    go_ret
    exact ⟨.slice aK ks.length capK, rfl, hownz.mono (by omega), hbz⟩
end Go.Proofs.YtgihommenknhoaaGreatDoor
