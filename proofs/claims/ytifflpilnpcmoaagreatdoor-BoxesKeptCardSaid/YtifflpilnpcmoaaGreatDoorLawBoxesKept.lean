/- For every list of raw numbers, BoxesKept returns true. The walk. -/
import Derived.Test.YtifflpilnpcmoaaGreatDoorJoin
import Derived.Test.YtifflpilnpcmoaaGreatDoorStatesR
import Derived.Test.YtifflpilnpcmoaaGreatDoorMakeCall2
import Derived.Test.YtifflpilnpcmoaaGreatDoorSubmits
import Derived.Test.YtifflpilnpcmoaaGreatDoorReg
import Derived.Deep.CutBlock
namespace Go.Proofs.YtifflpilnpcmoaaGreatDoor.boxesKept
open Go.RowKit
set_option linter.unusedVariables false
set_option linter.unusedSimpArgs false

theorem joinL_mem {f f1 : Int} {l m : List Arv} {y : Arv} (h : y ∈ joinL f f1 l m) : y ∈ l ∨ y ∈ m := by
  unfold joinL at h
  split at h
  · exact joinA_mem.1 h
  · exact .inl h
theorem joinL_len (f f1 : Int) (l m : List Arv) : (joinL f f1 l m).length ≤ l.length + m.length := by
  unfold joinL
  split
  · rw [joinA_len]; have := freshA_len l m; omega
  · omega
theorem joinL_rise {f f1 : Int} {l m : List Arv} (hl : RiseA l) (hm : RiseA m) : RiseA (joinL f f1 l m) := by
  unfold joinL
  split
  · exact joinA_rise hl hm
  · exact hl
theorem arrs_ok {o a f : Int} {s : List Skill} {l : List Arv} (hc : callFault o a f s = 0) (hl : l.length ≤ 1000) (h : ∀ y ∈ l, ArvOk y ∧ aF y = 0) : arrsFault o a f s l = 0 := by
  unfold arrsFault
  rw [if_neg (by rw [hc]; decide), if_neg (by omega)]
  refine firstErr_zero fun j hj => ?_
  unfold arrE
  rw [List.getElem?_eq_getElem hj]
  exact (h _ (List.getElem_mem hj)).2
/-- What both lists of arrivals keep to. -/
structure Both (i : Nat) (lx lo : List Arv) : Prop where
  nx : lx.length ≤ 14 * i
  no : lo.length ≤ i
  rx : RiseA lx
  ro : RiseA lo
  okx : ∀ y ∈ lx, ArvOk y ∧ aF y = 0
  oko : ∀ y ∈ lo, ArvOk y ∧ aF y = 0
theorem Both.keep {i : Nat} {lx lo : List Arv} (h : Both i lx lo) : Both (i + 1) lx lo := ⟨by have := h.nx; omega, by have := h.no; omega, h.rx, h.ro, h.okx, h.oko⟩
theorem Both.putX {i : Nat} {lx lo : List Arv} (h : Both i lx lo) {x : Arv} (hx : ArvOk x) : Both (i + 1) (putL lx x) lo :=
  ⟨by have := h.nx; have := putL_len lx x; omega, by have := h.no; omega, putL_rise h.rx x, h.ro, fun y hy => (putL_mem hy).elim (h.okx y) (fun e => ⟨e.1 ▸ hx, e.1 ▸ e.2⟩), h.oko⟩
theorem Both.putO {i : Nat} {lx lo : List Arv} (h : Both i lx lo) {x : Arv} (hx : ArvOk x) : Both (i + 1) lx (putL lo x) :=
  ⟨by have := h.nx; omega, by have := h.no; have := putL_len lo x; omega, h.rx, putL_rise h.ro x, h.okx, fun y hy => (putL_mem hy).elim (h.oko y) (fun e => ⟨e.1 ▸ hx, e.1 ▸ e.2⟩)⟩
theorem Both.join {i : Nat} {lx lo : List Arv} (h : Both i lx lo) (hi : i < 14) (f f1 : Int) : Both (i + 1) (joinL f f1 lx lo) lo :=
  ⟨by have := h.nx; have := h.no; have := joinL_len f f1 lx lo; omega, by have := h.no; omega, joinL_rise h.rx h.ro, h.ro, fun y hy => (joinL_mem hy).elim (h.okx y) (h.oko y), h.oko⟩
set_option maxRecDepth 100000 in
set_option maxHeartbeats 8000000 in
theorem walk (a0 : Option Addr) (len0 cap0 : Nat) (z0 : List Int) (w : World) (w0 : IsRow .i64 w a0 len0 cap0 z0) (hE : Env w) :
    Calls Tryz.prog 4 #[.slice a0 len0 cap0] w fun e w' => e = .returned (.bool true) ∧ Below w.heap.size w w' := by
  have hs := strm_new w0
  have hES := hE.envS
  have HEb := Lib.hid (fun w' (h : Below w.heap.size w w') => hE.below h)
  go_enter Tryz.func4, Tryz.ntmps4
  go_wp2_with fail
  refine (call_any w.heap.size 0 _ hs (by omega)).mono ?_
  rintro e w1 ⟨o, a, f, s, a3, c3, rfl, ⟨ho1, ho2, ha1, ha2, hf1, hf2⟩, hsl, hok, hown, h1, s1⟩
  have hz1 := h1.size
  simp at hz1
  have hlt3 := hown.lt
  obtain ⟨a3', cap', heq, hsa, hlf, hcap⟩ := hown.form
  obtain ⟨rfl, rfl⟩ : a3 = a3' ∧ c3 = cap' := by simpa using heq
  have hst1 : Stp w.heap.size w w1 := ((Stp.refl _ w).alloc _).trans h1
  have hbw1 : Below w.heap.size w w1 := by
    have := hst1.below
    rw [Nat.min_self] at this
    exact this
  have hsf : a3 = none ∨ ∃ b off, a3 = some ⟨b, off, none⟩ := hlf.elim .inl (fun ⟨g, e, _⟩ => .inr ⟨g, 0, e⟩)
  have H3 : Hid (∀ x : Addr, a3 = some x → w.heap.size + 1 ≤ x.block ∧ x.block < w1.heap.size) := fun x hx => by
    rcases hlf with e | ⟨g, e, h1, h2⟩
    · rw [e] at hx; cases hx
    · rw [e] at hx; cases hx; exact ⟨by simpa using h1, h2⟩
  have Hsm : Hid (∀ x ∈ s, x.1.size ≤ 1000) := fun x hx => (hok x hx).1
  have Hbd : Hid (∀ x ∈ s, 0 ≤ x.2 ∧ x.2 ≤ 10000000) := fun x hx => (hok x hx).2
  clear w0 hs hown h1 heq hok hE hlf hcap hlt3 hst1
  have HN := Lib.hid (fun (f : Int) W (h : SA W a3 s) => newBoxP_any o a f s a3 c3 W h hsf (by omega) Hsm.out)
  have HF := Lib.hid (fun (f : Int) W (h : SA W a3 s) => callFault_any o a f s a3 c3 W h (by omega) Hsm.out)
  have HR := Lib.hid (fun (f : Int) W => newBoxR_any o a f s a3 c3 W)
  unfold callAgg at *
  have hC0 := Box.new w1 28 #[.int .i64 o, .int .i64 a, .int .i64 f, .slice a3 s.length c3]
  have hsa0 := hsa.alloc (.cells #[.int .i64 o, .int .i64 a, .int .i64 f, .slice a3 s.length c3] 28)
  have hbw0 := hbw1.alloc (by omega) (.cells #[.int .i64 o, .int .i64 a, .int .i64 f, .slice a3 s.length c3] 28)
  have hs0 := s1.alloc (.cells #[.int .i64 o, .int .i64 a, .int .i64 f, .slice a3 s.length c3] 28)
  go_upto_region 3 with (fail)
  have hzc : w1.heap.size < (w1.alloc (.cells #[.int .i64 o, .int .i64 a, .int .i64 f, .slice a3 s.length c3] 28)).heap.size := by simp
  have hzs : w.heap.size < w1.heap.size := by omega
  generalize w1.alloc (.cells #[.int .i64 o, .int .i64 a, .int .i64 f, .slice a3 s.length c3] 28) = W1 at *
  generalize w1.heap.size = n4 at *
  clear hsa hbw1 s1
  have hC0_l := hC0.lt; have hC0_0 := hC0.cell 0; have hC0_1 := hC0.cell 1; have hC0_2 := hC0.cell 2; have hC0_3 := hC0.cell 3; simp at hC0_0 hC0_1 hC0_2 hC0_3
  go_wp2_with fail
  refine (HN.out f _ hsa0).mono ?_
  rintro e w2 ⟨hb2, ad, rfl, hnb⟩
  have Hnb := Lib.hid hnb
  have hC2 := hC0.below hb2
  have hsa2 := hsa0.below hb2
  have hbw2 := below_next hbw0 hb2
  have hs2 := hs0.kp (X := fun _ => False) (Kp.of_below hb2) (fun _ _ h => h)
  have hz2 := hb2.size
  clear hC0_l hC0_0 hC0_1 hC0_2 hC0_3
  clear hnb hC0 hsa0 hbw0 hs0 hb2
  have hC2_l := hC2.lt; have hC2_0 := hC2.cell 0; have hC2_1 := hC2.cell 1; have hC2_2 := hC2.cell 2; have hC2_3 := hC2.cell 3; simp at hC2_0 hC2_1 hC2_2 hC2_3
  go_wp2_with fail
  refine (HF.out f _ hsa2).mono ?_
  rintro e w3 ⟨rfl, hb3⟩
  have hC3 := hC2.below hb3
  have hsa3 := hsa2.below hb3
  have hbw3 := below_next hbw2 hb3
  have hs3 := hs2.kp (X := fun _ => False) (Kp.of_below hb3) (fun _ _ h => h)
  have Hb3 := Lib.hid hb3
  have hz3 := hb3.size
  clear hC2_l hC2_0 hC2_1 hC2_2 hC2_3
  clear hC2 hsa2 hbw2 hs2 hb3
  by_cases hcf : callFault o a f s = 0
  · obtain ⟨bx, rx, kx, rfl, hbx1, hBx, hsrx, hrxn⟩ := Hnb.out hcf
    have hbx3 : n4 < bx := by omega
    have hBx3 := hBx.below Hb3.out
    have hsrx3 := hsrx.below Hb3.out
    have hbxl := hBx3.lt
    have Hrx : Hid (∀ x : Addr, rx = some x → n4 < x.block ∧ x.block < bx) := fun x hx => ⟨by have := (hrxn x hx).1; omega, (hrxn x hx).2⟩
    have Hcf0 := Lib.hid hcf
    rw [hcf]
    clear hcf Hnb hBx hsrx hrxn Hb3
    have hO4 := Box.new w3 28 #[.int .i64 o, .int .i64 a, .int .i64 f, .slice a3 s.length c3]
    have hC4 := hC3.alloc (.cells #[.int .i64 o, .int .i64 a, .int .i64 f, .slice a3 s.length c3] 28)
    have hBx4 := hBx3.alloc (.cells #[.int .i64 o, .int .i64 a, .int .i64 f, .slice a3 s.length c3] 28)
    have hsrx4 := hsrx3.alloc (.cells #[.int .i64 o, .int .i64 a, .int .i64 f, .slice a3 s.length c3] 28)
    have hsa4 := hsa3.alloc (.cells #[.int .i64 o, .int .i64 a, .int .i64 f, .slice a3 s.length c3] 28)
    have hs4 := hs3.alloc (.cells #[.int .i64 o, .int .i64 a, .int .i64 f, .slice a3 s.length c3] 28)
    have hbw4 := hbw3.alloc (by omega) (.cells #[.int .i64 o, .int .i64 a, .int .i64 f, .slice a3 s.length c3] 28)
    have hC3_l := hC3.lt; have hC3_0 := hC3.cell 0; have hC3_1 := hC3.cell 1; have hC3_2 := hC3.cell 2; have hC3_3 := hC3.cell 3; simp at hC3_0 hC3_1 hC3_2 hC3_3
    go_upto_region 8 with (fail)
    clear hC3_l hC3_0 hC3_1 hC3_2 hC3_3
    clear hC3 hBx3 hsrx3 hsa3 hs3 hbw3
    have hn8 : bx < w3.heap.size := hbxl
    have hn8l : w3.heap.size < (w3.alloc (.cells #[.int .i64 o, .int .i64 a, .int .i64 f, .slice a3 s.length c3] 28)).heap.size := by simp
    generalize w3.alloc (.cells #[.int .i64 o, .int .i64 a, .int .i64 f, .slice a3 s.length c3] 28) = W4 at *
    generalize w3.heap.size = n8 at *
    go_wp2_with fail
    refine (flip_any w.heap.size (0 + 20) 4 _ hs4 (by omega) (by omega) (by omega)).mono ?_
    rintro e w5 ⟨fl, rfl, h5, s5⟩
    have hC5 := hC4.stp h5 (by omega)
    have hO5 := hO4.stp h5 (by omega)
    have hBx5 := hBx4.stp h5 (by omega)
    have hsrx5 := hsrx4.stp h5 (fun x hx => by have := (Hrx.out x hx).1; omega)
    have hsa5 := hsa4.stp h5 (fun x hx => by have := (H3.out x hx).1; omega)
    have hbw5 := belowKp hbw4 (Kp.of_stp (X := fun j => j = w.heap.size) h5 rfl) (fun j hj => by omega) hbw4.size
    have hz5 := h5.size
    clear hC4 hO4 hBx4 hsrx4 hsa4 hs4 hbw4 h5
    go_upto_if 51 with (fail)
    go_cut [] (fun wx => ∃ (f1 : Int) (W' : World), W' = wx ∧ (f1 = f ∨ f1 = f + 1) ∧ Box W' n8 28 #[.int .i64 o, .int .i64 a, .int .i64 f1, .slice a3 s.length c3] ∧ Kp (fun j => j = n8) w5 W')
    case first =>
      cases fl
      · go_wp2_with fail
        go_meet
        exact ⟨f, _, rfl, .inl rfl, hO5, Kp.refl _ _⟩
      · have hwf : IntKind.i64.wrap (f + 1) = f + 1 := IntWalk.i64_in _ (by omega)
        have hO6 : Box (w5.setCell ⟨n8, 2, none⟩ (.int .i64 (f + 1))) n8 28 #[.int .i64 o, .int .i64 a, .int .i64 (f + 1), .slice a3 s.length c3] := by simpa using hO5.set 2 (.int .i64 (f + 1))
        have hk6 := (Kp.refl (fun j => j = n8) w5).setCell (p := ⟨n8, 2, none⟩) (.inl rfl) (.int .i64 (f + 1))
        have hO5_l := hO5.lt; have hO5_0 := hO5.cell 0; have hO5_1 := hO5.cell 1; have hO5_2 := hO5.cell 2; have hO5_3 := hO5.cell 3; simp at hO5_0 hO5_1 hO5_2 hO5_3
        have hO5_f0 := hO5.frozen 0; have hO5_f1 := hO5.frozen 1; have hO5_f2 := hO5.frozen 2; have hO5_f3 := hO5.frozen 3
        go_wp2_with fail
        go_meet
        exact ⟨f + 1, _, rfl, .inr rfl, hO6, hk6⟩
    case rest =>
      obtain ⟨f1, W6, hW6, hff, hO6, hk6⟩ := hcut
      subst hW6
      have hC6 := hC5.kp hk6 (by omega)
      have hBx6 := hBx5.kp hk6 (by omega)
      have hsrx6 := hsrx5.kp hk6 (fun x hx _ e => by have := (Hrx.out x hx).2; omega)
      have hsa6 := hsa5.kp hk6 (fun x hx _ e => by have := (H3.out x hx).2; omega)
      have s6 := s5.kp hk6 (fun j hj e => by omega)
      have hbw6 := belowKp hbw5 hk6 (fun j hj => by omega) hbw5.size
      have hz6 := hk6.size
      clear hC5 hBx5 hsrx5 hsa5 s5 hbw5 hO5 hk6
      have HN1 := Lib.hid (fun W h => HN.out f1 W h)
      have HF1 := Lib.hid (fun W h => HF.out f1 W h)
      have HR0 := Lib.hid (fun W => HR.out f W)
      have HR1 := Lib.hid (fun W => HR.out f1 W)
      clear HN HF HR
      have hO6_l := hO6.lt; have hO6_0 := hO6.cell 0; have hO6_1 := hO6.cell 1; have hO6_2 := hO6.cell 2; have hO6_3 := hO6.cell 3; simp at hO6_0 hO6_1 hO6_2 hO6_3
      go_wp2_with fail
      refine (HN1.out _ hsa6).mono ?_
      rintro e w7 ⟨hb7, ad7, rfl, hnb7⟩
      have Hnb7 := Lib.hid hnb7
      have hC7 := hC6.below hb7
      have hO7 := hO6.below hb7
      have hBx7 := hBx6.below hb7
      have hsrx7 := hsrx6.below hb7
      have hsa7 := hsa6.below hb7
      have s7 := s6.kp (X := fun _ => False) (Kp.of_below hb7) (fun _ _ h => h)
      have hbw7 := below_next hbw6 hb7
      have hz7 := hb7.size
      clear hO6_l hO6_0 hO6_1 hO6_2 hO6_3
      clear hC6 hO6 hBx6 hsrx6 hsa6 s6 hbw6 hnb7 HN1 hb7
      by_cases hcf1 : callFault o a f1 s = 0
      · obtain ⟨bo, ro, ko, rfl, hbo1, hBo7, hsro7, hron⟩ := Hnb7.out hcf1
        have Hro : Hid (∀ x : Addr, ro = some x → n8 < x.block ∧ x.block < bo) := fun x hx => ⟨by have := (hron x hx).1; omega, (hron x hx).2⟩
        have hbol := hBo7.lt
        rw [hcf1] at HF1 ⊢
        clear hcf1 Hnb7 hron
        have hO7_l := hO7.lt; have hO7_0 := hO7.cell 0; have hO7_1 := hO7.cell 1; have hO7_2 := hO7.cell 2; have hO7_3 := hO7.cell 3; simp at hO7_0 hO7_1 hO7_2 hO7_3
        go_wp2_with fail
        refine (HF1.out _ hsa7).mono ?_
        rintro e w8 ⟨rfl, hb8⟩
        have hC8 := hC7.below hb8
        have hO8 := hO7.below hb8
        have hBx8 := hBx7.below hb8
        have hBo8 := hBo7.below hb8
        have hsrx8 := hsrx7.below hb8
        have hsro8 := hsro7.below hb8
        have hsa8 := hsa7.below hb8
        have s8 := s7.kp (X := fun _ => False) (Kp.of_below hb8) (fun _ _ h => h)
        have hbw8 := below_next hbw7 hb8
        have hz8 := hb8.size
        clear hO7_l hO7_0 hO7_1 hO7_2 hO7_3
        clear hC7 hO7 hBx7 hBo7 hsrx7 hsro7 hsa7 s7 hbw7 HF1 hb8
        go_upto_region 13 with (fail)
        have HS0 : Hid (∀ wx, Below w8.heap.size w8 wx → (wx.cell? ⟨n4, 0, none⟩ = some (.int .i64 o) ∧ wx.cell? ⟨n4, 1, none⟩ = some (.int .i64 a) ∧ wx.cell? ⟨n4, 2, none⟩ = some (.int .i64 f) ∧ wx.cell? ⟨n4, 3, none⟩ = some (.slice a3 s.length c3) ∧ wx.cell? ⟨n8, 0, none⟩ = some (.int .i64 o) ∧ wx.cell? ⟨n8, 1, none⟩ = some (.int .i64 a) ∧ wx.cell? ⟨n8, 2, none⟩ = some (.int .i64 f1) ∧ wx.cell? ⟨n8, 3, none⟩ = some (.slice a3 s.length c3))) := fun wx h => ⟨(hC8.below h).cell 0, (hC8.below h).cell 1, (hC8.below h).cell 2, (hC8.below h).cell 3, (hO8.below h).cell 0, (hO8.below h).cell 1, (hO8.below h).cell 2, (hO8.below h).cell 3⟩
        refine wp_region_held_drew (S := (fun wx => (wx.cell? ⟨n4, 0, none⟩ = some (.int .i64 o) ∧ wx.cell? ⟨n4, 1, none⟩ = some (.int .i64 a) ∧ wx.cell? ⟨n4, 2, none⟩ = some (.int .i64 f) ∧ wx.cell? ⟨n4, 3, none⟩ = some (.slice a3 s.length c3) ∧ wx.cell? ⟨n8, 0, none⟩ = some (.int .i64 o) ∧ wx.cell? ⟨n8, 1, none⟩ = some (.int .i64 a) ∧ wx.cell? ⟨n8, 2, none⟩ = some (.int .i64 f1) ∧ wx.cell? ⟨n8, 3, none⟩ = some (.slice a3 s.length c3)) ∧ Below w8.heap.size w8 wx)) (by kernel_rfl) ?hS (fun hHeld => ?_)
        case hS => exact ⟨HS0.out _ (Below.refl _ _).drew, (Below.refl _ _).drew⟩
        refine rtake (i := 0) (d := (some 84)) (v := ?_) rfl (by kernel_rfl) (by kernel_rfl) (by kernel_rfl) (by kernel_rfl) (fun _ _ _ h => h) (by kernel_rfl) (by assumption) ?_ ?_
        rotate_left 1
        · (intro wI hSI; (try dsimp only at hSI); go_simp; (try with_reducible rfl))
        simp only [Act.put, List.setIfInBounds_toArray, List.set_cons_zero, List.set_cons_succ]
        refine rtake (i := 2) (d := (some 86)) (v := ?_) rfl (by kernel_rfl) (by kernel_rfl) (by kernel_rfl) (by kernel_rfl) (fun _ _ _ h => h) (by kernel_rfl) (by assumption) ?_ ?_
        rotate_left 1
        · (intro wI hSI; (try dsimp only at hSI); go_simp; (try with_reducible rfl))
        simp only [Act.put, List.setIfInBounds_toArray, List.set_cons_zero, List.set_cons_succ]
        refine rcall (i := 1) (d := (some 85)) (by kernel_rfl) rfl (by kernel_rfl) (fun K hK => ?_)
        go_simp
        go_at_call 25; refine (HR0.out _).mono ?_; rintro e w9 ⟨hb9, by9, rfl, hby1, hBy9⟩; have hbz9 := hHeld.2.size
        refine hK.out _ _ ?hS (fun hHeld => ?_)
        case hS => exact ⟨HS0.out _ (below_next hHeld.2 hb9), below_next hHeld.2 hb9⟩
        clear hK K
        simp only [Act.put, List.setIfInBounds_toArray, List.set_cons_zero, List.set_cons_succ]
        refine rcall (i := 3) (d := (some 87)) (by kernel_rfl) rfl (by kernel_rfl) (fun K hK => ?_)
        go_simp
        go_at_call 25; refine (HR1.out _).mono ?_; rintro e w10 ⟨hb10, bp9, rfl, hbp1, hBp10⟩
        refine hK.out _ _ ?hS (fun hHeld => ?_)
        case hS => exact ⟨HS0.out _ (below_next hHeld.2 hb10), below_next hHeld.2 hb10⟩
        clear hK K
        simp only [Act.put, List.setIfInBounds_toArray, List.set_cons_zero, List.set_cons_succ]
        refine rtake (i := 4) (d := (some 11)) (v := ?_) rfl (by kernel_rfl) (by kernel_rfl) (by kernel_rfl) (by kernel_rfl) (fun _ _ _ h => h) (by kernel_rfl) (by assumption) ?_ ?_
        rotate_left 1
        · (intro wI hSI; (try dsimp only at hSI); go_simp; (try with_reducible rfl))
        simp only [Act.put, List.setIfInBounds_toArray, List.set_cons_zero, List.set_cons_succ]
        refine rtake (i := 5) (d := (some 12)) (v := ?_) rfl (by kernel_rfl) (by kernel_rfl) (by kernel_rfl) (by kernel_rfl) (fun _ _ _ h => h) (by kernel_rfl) (by assumption) ?_ ?_
        rotate_left 1
        · (intro wI hSI; (try dsimp only at hSI); go_simp; (try with_reducible rfl))
        simp only [Act.put, List.setIfInBounds_toArray, List.set_cons_zero, List.set_cons_succ]
        refine wpAnyH_done (by kernel_rfl) ?_ _
        have hbW := hHeld.2
        have hC10 := hC8.below hbW
        have hBx10 := hBx8.below hbW
        have hBo10 := hBo8.below hbW
        have hBy10 := hBy9.below hb10
        have hsrx10 := hsrx8.below hbW
        have hsro10 := hsro8.below hbW
        have hsa10 := hsa8.below hbW
        have s10 := s8.kp (X := fun _ => False) (Kp.of_below hbW) (fun _ _ h => h)
        have hbw10 := below_next hbw8 hbW
        have hbyl := hBy9.lt
        have hbxl10 := hBx10.lt
        have hbol10 := hBo10.lt
        have hbyl10 := hBy10.lt
        have hbpl10 := hBp10.lt
        have hx1 : n4 < bx := hbx3
        have hx2 : bx < n8 := hn8
        have hx3 : n8 < bo := by omega
        have hx4 : bo < by9 := by omega
        have hx5 : by9 < bp9 := by omega
        have hx6 : w.heap.size < n4 := hzs
        clear hHeld hbW hC8 hO8 hBx8 hBo8 hBy9 hsrx8 hsro8 hsa8 s8 hbw8 HS0 HR0 HR1 hb9 hb10 hby1 hbp1 hbz9 hbo1 hbol hbyl
        obtain ⟨k, hk, eW, eS, ex, eo, ey, ep, e1, e2, e3, e4, e5, e6, e7, e8, e9, e10, e11⟩ : ∃ k : BK, k.Ok ∧ k.W0 = w10 ∧ k.S = w.heap.size ∧ k.bx = bx ∧ k.bo = bo ∧ k.by_ = by9 ∧ k.bp = bp9 ∧ k.o = o ∧ k.a = a ∧ k.f = f ∧ k.f1 = f1 ∧ k.s = s ∧ k.rx = rx ∧ k.ro = ro ∧ k.rc = a3 ∧ k.kx = kx ∧ k.ko = ko ∧ k.kc = c3 := by
          have hnX : ∀ j, w.heap.size < j → j ≠ bx → j ≠ bo → j < by9 → ¬ (j = w.heap.size ∨ j = bx ∨ j = bo ∨ j = by9 ∨ j = bp9) := fun j h1 h2 h3 h4 h => by omega
          refine ⟨⟨w10, w.heap.size, bx, bo, by9, bp9, o, a, f, f1, s, rx, ro, a3, kx, ko, c3⟩, ⟨by show bx ≠ bo; omega, by show bx ≠ by9; omega, by show bx ≠ bp9; omega, by show bo ≠ by9; omega, by show bo ≠ bp9; omega, by show by9 ≠ bp9; omega, by show w.heap.size < bx; omega, by show w.heap.size < bo; omega, by show w.heap.size < by9; omega, by show w.heap.size < bp9; omega, by show w.heap.size < w10.heap.size; omega, HEb.out _ hbw10, hsrx10, hsro10, hsa10, fun x hx => ?_, fun x hx => ?_, fun x hx => ?_, fun w' h => HEb.out _ (belowKp hbw10 h (fun j hj => ?_) hbw10.size), by show s.length ≤ 1000000; omega, Hsm.out, Hbd.out, ⟨by show 0 ≤ a; omega, by show a ≤ 10000000; omega, by show 0 ≤ f; omega, by show f ≤ 10000000; omega⟩, Hcf0.out⟩, rfl, rfl, rfl, rfl, rfl, rfl, rfl, rfl, rfl, rfl, rfl, rfl, rfl, rfl, rfl, rfl, rfl⟩
          · have := Hrx.out x hx
            exact hnX _ (by omega) (by omega) (by omega) (by omega)
          · have := Hro.out x hx
            exact hnX _ (by omega) (by omega) (by omega) (by omega)
          · have := H3.out x hx
            exact hnX _ (by omega) (by omega) (by omega) (by omega)
          · have hj' : j = w.heap.size ∨ j = bx ∨ j = bo ∨ j = by9 ∨ j = bp9 := hj
            omega
        have HFb : Hid (∀ w', Kp k.X k.W0 w' → Below w.heap.size w w') := fun w' h => by
          rw [eW] at h
          refine belowKp hbw10 h (fun j hj => ?_) hbw10.size
          have hj' : j = k.S ∨ j = k.bx ∨ j = k.bo ∨ j = k.by_ ∨ j = k.bp := hj
          omega
        have HcX : Hid (¬ k.X n4) := fun hj => by
          have hj' : n4 = k.S ∨ n4 = k.bx ∨ n4 = k.bo ∨ n4 = k.by_ ∨ n4 = k.bp := hj
          omega
        subst eW ex eo ey ep e1 e2 e3 e4 e5 e6 e7 e8 e9 e10 e11
        have hsit : Sit k (0 + 20 + 1) (.slice none 0 0) (.slice none 0 0) (.slice none 0 0) (.slice none 0 0) [] [] [] [] k.W0 :=
          ⟨⟨hBx10, Own.nil _ _ _, hbxl10⟩, ⟨hBo10, Own.nil _ _ _, hbol10⟩, ⟨hBy10, Own.nil _ _ _, hbyl10⟩, ⟨hBp10, Own.nil _ _ _, hbpl10⟩, (fun j hj => by cases hj), (fun j hj => by cases hj), (fun j hj => by cases hj), (fun j hj => by cases hj), (fun j hj => by cases hj), (fun j hj => by cases hj), Kp.refl _ _, by rw [eS]; exact s10⟩
        have HC := Lib.hid hC10
        have HkS := Lib.hid eS
        have Hk := Lib.hid hk
        clear hk eS hC10 hBx10 hBo10 hBy10 hBp10 hsrx10 hsro10 hsa10 s10 hbw10 hbxl10 hbol10 hbyl10 hbpl10 hx1 hx2 hx3 hx4 hx5 hx6 Hrx Hro H3 hff Hcf0 Hsm Hbd
        go_wp2_with fail
        refine (next_any w.heap.size (0 + 20 + 1) 14 _ (by rw [← HkS.out]; exact hsit.st) (by omega) (by omega) (by omega)).mono ?_
        rintro e w11 ⟨r, ⟨hr1, hr2⟩, rfl, h11, s11⟩
        rw [← HkS.out] at h11 s11
        have hsit1 := hsit.stp Hk.out h11 s11
        obtain ⟨R, rfl⟩ : ∃ R : Nat, r = (R : Int) := ⟨r.toNat, by omega⟩
        have hR : R < 14 := by omega
        clear hsit h11 s11 hr1 hr2
        go_wp2_with fail
        go_loopg [90] R (fun gk i wr => ∃ (j : Nat) (vx vo vy vp : Value) (lx lo : List Arv), i = .int .i64 j ∧ j ≤ R ∧ Hid (gk = R - j) ∧ Sit k (100 + 20 * j) vx vo vy vp lx lo lx lo wr ∧ Both j lx lo)
        case atStart => exact ⟨0, _, _, _, _, [], [], rfl, by omega, rfl, hsit1.up (by omega), ⟨by simp, by simp, List.Pairwise.nil, List.Pairwise.nil, (fun y hy => by cases hy), (fun y hy => by cases hy)⟩⟩
        case round =>
          clear hsit1
          obtain ⟨j, vx, vo, vy, vp, lx, lo, rfl, hj, hgj, hsit, hbo⟩ := hrel
          by_cases hlt : j < R
          · have hS0 := hsit.st.lt
            rw [HkS.out] at hS0
            go_wp2_with fail
            refine (arrival_any w.heap.size (100 + 20 * j) _ (by rw [← HkS.out]; exact hsit.st) (by omega)).mono ?_
            rintro e w1 ⟨p, t, kd, rs, x, rfl, hok, h1, s1⟩
            rw [← HkS.out] at h1 s1
            have hsit1 := hsit.stp Hk.out h1 s1
            have hS1 := hsit1.st.lt
            rw [HkS.out] at hS1
            have Hok : Hid (ArvOk (p, t, kd, rs, x)) := hok
            clear hsit h1 s1 hok
            unfold arrAgg
            go_wp2_with fail
            refine (pick_box w.heap.size (100 + 20 * j + 8) _ 3 4 [0, 60, 200, -1] _ (by rw [← HkS.out]; exact hsit1.st.alloc _) (by omega) (Box.new _ _ _) (by omega) (by decide) (by decide)).mono ?_
            rintro e w2 ⟨tm, htm, rfl, h2, s2⟩
            rw [← HkS.out] at h2 s2
            have hsit2 := (hsit1.below ((Below.refl _ _).alloc (Nat.le_refl _) _)).stp Hk.out h2 s2
            have hS2 := hsit2.st.lt
            rw [HkS.out] at hS2
            clear hsit1 h2 s2 htm
            have Hnx := Lib.hid (And.intro (Nat.lt_of_lt_of_le hsit2.x.2.2 hsit2.kw.size) (fun j (hj : vx.ownBlock = some j) => (hsit2.x.2.1.lt j hj).2))
            have Hno := Lib.hid (And.intro (Nat.lt_of_lt_of_le hsit2.oo.2.2 hsit2.kw.size) (fun j (hj : vo.ownBlock = some j) => (hsit2.oo.2.1.lt j hj).2))
            have hA2 := Box.new w2 63 #[.string p, .int .i64 t, .int .i64 kd, .string rs, .string x]
            have hsit3 := hsit2.below ((Below.refl _ _).alloc (Nat.le_refl _) (.cells #[.string p, .int .i64 t, .int .i64 kd, .string rs, .string x] 63))
            go_upto_region 17 with (fail)
            have hnA : w2.heap.size ≠ w.heap.size := by omega
            generalize w2.alloc (.cells #[.string p, .int .i64 t, .int .i64 kd, .string rs, .string x] 63) = W2 at *
            generalize w2.heap.size = nA at *
            clear hsit2
            go_wp2_with fail
            refine (next_any w.heap.size (100 + 20 * j + 8 + 1) 6 _ (by rw [← HkS.out]; exact hsit3.st) (by omega) (by omega) (by omega)).mono ?_
            rintro e w3 ⟨q, ⟨hq1, hq2⟩, rfl, h3, s3⟩
            have hA3 := hA2.stp h3 hnA
            rw [← HkS.out] at h3 s3
            have hsit4 := hsit3.stp Hk.out h3 s3
            have hbl := hbo.nx
            have hbl2 := hbo.no
            have Hbo := Lib.hid hbo
            clear hsit3 h3 s3 hA2 hnA hbo hS0 hS1 hS2
            go_upto_block 2 with (fail)
            go_cut [90] from 90 to 194 (fun v wx => v = .int .i64 (j : Nat) ∧ ∃ (vx vo vy vp : Value) (lx lo : List Arv) (W' : World), W' = wx ∧ Sit k (100 + 20 * j + 8 + 1 + 1) vx vo vy vp lx lo lx lo W' ∧ Both (j + 1) lx lo)
            case first =>
              obtain rfl | rfl | rfl | hq3 : q = 0 ∨ q = 1 ∨ q = 2 ∨ 3 ≤ q := by omega
              · clear hA3
                go_wp2_with fail
                refine (hsit4.join Hk.out (by omega) (by omega) Hbo.out.rx Hbo.out.ro).mono ?_
                rintro e w4 ⟨vn, rfl, hsit5⟩
                have hjl := joinL_len k.f k.f1 lx lo
                clear hsit4
                go_wp2_with fail
                refine (hsit5.joinR Hk.out (by omega) (by omega)).mono ?_
                rintro e w5 ⟨vm, rfl, hsit6⟩
                have Hbn := Lib.hid (Hbo.out.join (by omega) k.f k.f1)
                clear hsit5 hjl
                generalize joinL k.f k.f1 lx lo = ln at *
                generalize joinN k.f k.f1 lx lo = jn at *
                generalize joinE k.f k.f1 = je at *
                have hq1 : (jn != jn) = false := by simp
                have hq2 : (je != je) = false := by simp
                go_wp2_with fail
                go_meet
                exact ⟨rfl, vn, vo, vm, vp, ln, lo, _, rfl, hsit6, Hbn.out⟩
              · have hA3_l := hA3.lt; have hA3_0 := hA3.cell 0; have hA3_1 := hA3.cell 1; have hA3_2 := hA3.cell 2; have hA3_3 := hA3.cell 3; have hA3_4 := hA3.cell 4; simp at hA3_0 hA3_1 hA3_2 hA3_3 hA3_4
                go_wp2_with fail
                refine (hsit4.putO Hk.out (p, t, kd, rs, x) Hok.out (by omega) Hbo.out.ro).mono ?_
                rintro e w4 ⟨vn, rfl, hsit5, hm5⟩
                clear hA3_l hA3_0 hA3_1 hA3_2 hA3_3 hA3_4
                have hA4 := hA3.moves hm5 Hno.out
                clear hsit4 hm5 hA3
                have hA4_l := hA4.lt; have hA4_0 := hA4.cell 0; have hA4_1 := hA4.cell 1; have hA4_2 := hA4.cell 2; have hA4_3 := hA4.cell 3; have hA4_4 := hA4.cell 4; simp at hA4_0 hA4_1 hA4_2 hA4_3 hA4_4
                go_wp2_with fail
                refine (hsit5.putQ Hk.out (p, t, kd, rs, x) Hok.out (by omega) Hbo.out.ro).mono ?_
                rintro e w5 ⟨vm, rfl, hsit6⟩
                have Hbn := Lib.hid (Hbo.out.putO Hok.out)
                clear hA4_l hA4_0 hA4_1 hA4_2 hA4_3 hA4_4
                clear hsit5 hA4
                generalize putL lo (p, t, kd, rs, x) = ln at *
                generalize putB lo (p, t, kd, rs, x) = jn at *
                generalize aF (p, t, kd, rs, x) = je at *
                have hq1 : (jn != jn) = false := by simp
                have hq2 : (je != je) = false := by simp
                go_wp2_with fail
                go_meet
                exact ⟨rfl, vx, vn, vy, vm, lx, ln, _, rfl, hsit6, Hbn.out⟩
              · clear hA3 Hnx Hno
                have HA0 := Lib.hid (arrs_ok Hk.out.cf (by omega) Hbo.out.okx)
                have HSE : Hid (stsE k.o k.a k.f k.s lx tm = if momB tm = false then 1 else 0) := by
                  show _ = _
                  unfold stsE
                  rw [if_neg (fun e => e HA0.out)]
                have HEn := Lib.hid (hsit4.entries Hk.out (by omega) (fun y hy => (Hbo.out.okx y hy).1) tm)
                have HR := Lib.hid (fun W la cp (h : CallIn k.a k.f k.s k.rc lx la W) => entriesR_any k.o k.a k.f k.s k.rc k.kc lx la cp tm W h (arrs_kind HA0.out))
                have HcI := Lib.hid (fun W (la : Option Addr) (h : Sit k (100 + 20 * j + 8 + 1 + 1) vx vo vy vp lx lo lx lo W) (hsa : SA W la lx) hlf => h.callInR Hk.out hsa hlf (by omega) (fun y hy => (Hbo.out.okx y hy).1))
                rw [stsV_R] at HEn
                unfold callAgg at HR
                generalize ((keysS (lx.map (·.1))).map (fun id => entR (cntB k.o k.a k.f k.s) lx id tm)).filter isEnt = ents at *
                generalize stsE k.o k.a k.f k.s lx tm = se at *
                clear HA0
                go_wp2_with fail
                refine HEn.out.mono ?_
                rintro e w4 ⟨hb4, ae, le, ce, rfl, hle, hents⟩
                have Hents := Lib.hid hents
                have hsit5 := hsit4.below hb4
                clear hents hsit4 hb4 HEn
                go_wp2_with fail
                refine (moment_any tm _).mono ?_
                rintro e w5 ⟨rfl, hw5⟩
                subst hw5
                cases hm : momB tm
                · have hse : se = 1 := by rw [HSE.out, hm]; rfl
                  subst hse
                  clear HSE Hents HR HcI
                  go_wp2_with fail
                  go_meet
                  exact ⟨rfl, vx, vo, vy, vp, lx, lo, _, rfl, hsit5, Hbo.out.keep⟩
                · have hse : se = 0 := by rw [HSE.out, hm]; rfl
                  obtain ⟨rfl, hes⟩ := Hents.out hse
                  have Hes := Lib.hid hes
                  subst hse
                  clear HSE Hents hes
                  have hC5 := HC.out.kp hsit5.kw HcX.out
                  have HS0 : Hid (∀ wx, Below w4.heap.size w4 wx → (wx.cell? ⟨n4, 0, none⟩ = some (.int .i64 k.o) ∧ wx.cell? ⟨n4, 1, none⟩ = some (.int .i64 k.a) ∧ wx.cell? ⟨n4, 2, none⟩ = some (.int .i64 k.f) ∧ wx.cell? ⟨n4, 3, none⟩ = some (.slice k.rc k.s.length k.kc))) := fun wx h => ⟨(hC5.below h).cell 0, (hC5.below h).cell 1, (hC5.below h).cell 2, (hC5.below h).cell 3⟩
                  clear hC5
                  go_upto_region 37 with (fail)
                  refine wp_region_held_drew (S := (fun wx => (wx.cell? ⟨n4, 0, none⟩ = some (.int .i64 k.o) ∧ wx.cell? ⟨n4, 1, none⟩ = some (.int .i64 k.a) ∧ wx.cell? ⟨n4, 2, none⟩ = some (.int .i64 k.f) ∧ wx.cell? ⟨n4, 3, none⟩ = some (.slice k.rc k.s.length k.kc)) ∧ Below w4.heap.size w4 wx)) (by kernel_rfl) ?hS (fun hHeld => ?_)
                  case hS => exact ⟨HS0.out _ (Below.refl _ _).drew, (Below.refl _ _).drew⟩
                  refine rtake (i := 0) (d := (some 176)) (v := ?_) rfl (by kernel_rfl) (by kernel_rfl) (by kernel_rfl) (by kernel_rfl) (fun _ _ _ h => h) (by kernel_rfl) (by assumption) ?_ ?_
                  rotate_left 1
                  · (intro wI hSI; (try dsimp only at hSI); go_simp; (try with_reducible rfl))
                  simp only [Act.put, List.setIfInBounds_toArray, List.set_cons_zero, List.set_cons_succ]
                  refine rtake (i := 1) (d := (some 177)) (v := ?_) rfl (by kernel_rfl) (by kernel_rfl) (by kernel_rfl) (by kernel_rfl) (fun _ _ _ h => h) (by kernel_rfl) (by assumption) ?_ ?_
                  rotate_left 1
                  · (intro wI hSI; (try dsimp only at hSI); go_simp; (try with_reducible rfl))
                  simp only [Act.put, List.setIfInBounds_toArray, List.set_cons_zero, List.set_cons_succ]
                  refine rtake (i := 2) (d := (some 178)) (v := ?_) rfl (by kernel_rfl) (by kernel_rfl) (by kernel_rfl) (by kernel_rfl) (fun _ _ _ h => h) (by kernel_rfl) (by assumption) ?_ ?_
                  rotate_left 1
                  · (intro wI hSI; (try dsimp only at hSI); go_simp; (try with_reducible rfl))
                  simp only [Act.put, List.setIfInBounds_toArray, List.set_cons_zero, List.set_cons_succ]
                  refine rtake (i := 3) (d := (some 179)) (v := ?_) rfl (by kernel_rfl) (by kernel_rfl) (by kernel_rfl) (by kernel_rfl) (fun _ _ _ h => h) (by kernel_rfl) (by assumption) ?_ ?_
                  rotate_left 1
                  · (intro wI hSI; (try dsimp only at hSI); go_simp; (try with_reducible rfl))
                  simp only [Act.put, List.setIfInBounds_toArray, List.set_cons_zero, List.set_cons_succ]
                  refine rtake (i := 4) (d := (some 180)) (v := ?_) rfl (by kernel_rfl) (by kernel_rfl) (by kernel_rfl) (by kernel_rfl) (fun _ _ _ h => h) (by kernel_rfl) (by assumption) ?_ ?_
                  rotate_left 1
                  · (intro wI hSI; (try dsimp only at hSI); go_simp; (try with_reducible rfl))
                  simp only [Act.put, List.setIfInBounds_toArray, List.set_cons_zero, List.set_cons_succ]
                  refine rtake (i := 5) (d := (some 181)) (v := ?_) rfl (by kernel_rfl) (by kernel_rfl) (by kernel_rfl) (by kernel_rfl) (fun _ _ _ h => h) (by kernel_rfl) (by assumption) ?_ ?_
                  rotate_left 1
                  · (intro wI hSI; (try dsimp only at hSI); go_simp; (try with_reducible rfl))
                  simp only [Act.put, List.setIfInBounds_toArray, List.set_cons_zero, List.set_cons_succ]
                  refine rtake (i := 7) (d := (some 183)) (v := ?_) rfl (by kernel_rfl) (by kernel_rfl) (by kernel_rfl) (by kernel_rfl) (fun _ _ _ h => h) (by kernel_rfl) (by assumption) ?_ ?_
                  rotate_left 1
                  · (intro wI hSI; (try dsimp only at hSI); go_simp; (try with_reducible rfl))
                  simp only [Act.put, List.setIfInBounds_toArray, List.set_cons_zero, List.set_cons_succ]
                  refine rcall (i := 6) (d := (some 182)) (by kernel_rfl) rfl (by kernel_rfl) (fun K hK => ?_)
                  rw [if_pos (by kernel_rfl)]; go_simp; go_at_call 33; refine (arrivalsR_any _ (hsit5.below hHeld.2).y (by omega)).mono ?_; rintro e w6 ⟨v6, rfl, hown6, hb6⟩; obtain ⟨a6, c6, rfl, hsa6, hlf6, -⟩ := hown6.form
                  refine hK.out _ _ ?hS (fun hHeld => ?_)
                  case hS => exact ⟨HS0.out _ (below_next hHeld.2 hb6), below_next hHeld.2 hb6⟩
                  clear hK K
                  simp only [Act.put, List.setIfInBounds_toArray, List.set_cons_zero, List.set_cons_succ]
                  refine rcall (i := 8) (d := (some 184)) (by kernel_rfl) rfl (by kernel_rfl) (fun K hK => ?_)
                  rw [if_pos (by kernel_rfl)]; go_simp; go_at_call 19; refine (HR.out _ _ _ (HcI.out _ _ (hsit5.below hHeld.2) hsa6 (hlf6.elim .inl (fun ⟨g, e, _⟩ => .inr ⟨g, 0, e⟩)))).mono ?_; rintro e w7 ⟨v7, rfl, hown7, hb7⟩; obtain ⟨a7, c7, rfl, hsa7, -, -⟩ := hown7.form
                  refine hK.out _ _ ?hS (fun hHeld => ?_)
                  case hS => exact ⟨HS0.out _ (below_next hHeld.2 hb7), below_next hHeld.2 hb7⟩
                  clear hK K
                  simp only [Act.put, List.setIfInBounds_toArray, List.set_cons_zero, List.set_cons_succ]
                  refine rcall (i := 9) (d := (some 185)) (by kernel_rfl) rfl (by kernel_rfl) (fun K hK => ?_)
                  rw [if_pos (by kernel_rfl)]; go_simp; go_at_call 18; refine (eqEnt_any ents _ _ _ _ _ (Hes.out.below hHeld.2) hsa7 hle).mono ?_; rintro e w8 ⟨rfl, k8, rfl⟩
                  refine hK.out _ _ ?hS (fun hHeld => ?_)
                  case hS => exact ⟨hHeld.1, below_drewN hHeld.2 _⟩
                  clear hK K
                  simp only [Act.put, List.setIfInBounds_toArray, List.set_cons_zero, List.set_cons_succ]
                  refine rtake (i := 10) (d := (some 186)) (v := ?_) rfl (by kernel_rfl) (by kernel_rfl) (by kernel_rfl) (by kernel_rfl) (fun _ _ _ h => h) (by kernel_rfl) (by assumption) ?_ ?_
                  rotate_left 1
                  · (intro wI hSI; (try dsimp only at hSI); go_simp; (try with_reducible rfl))
                  simp only [Act.put, List.setIfInBounds_toArray, List.set_cons_zero, List.set_cons_succ]
                  refine rtake (i := 11) (d := (some 187)) (v := ?_) rfl (by kernel_rfl) (by kernel_rfl) (by kernel_rfl) (by kernel_rfl) (fun _ _ _ h => h) (by kernel_rfl) (by assumption) ?_ ?_
                  rotate_left 1
                  · (intro wI hSI; (try dsimp only at hSI); go_simp; (try with_reducible rfl))
                  simp only [Act.put, List.setIfInBounds_toArray, List.set_cons_zero, List.set_cons_succ]
                  refine wpAnyH_done (by kernel_rfl) ?_ _
                  have hsit9 := hsit5.below hHeld.2
                  clear hHeld hsit5
                  go_wp2_with fail
                  go_meet
                  exact ⟨rfl, vx, vo, vy, vp, lx, lo, _, rfl, hsit9, Hbo.out.keep⟩
              · have hd0 : (q == 0) = false := by rw [beq_eq_false_iff_ne]; omega
                have hd1 : (q == 1) = false := by rw [beq_eq_false_iff_ne]; omega
                have hd2 : (q == 2) = false := by rw [beq_eq_false_iff_ne]; omega
                have hA3_l := hA3.lt; have hA3_0 := hA3.cell 0; have hA3_1 := hA3.cell 1; have hA3_2 := hA3.cell 2; have hA3_3 := hA3.cell 3; have hA3_4 := hA3.cell 4; simp at hA3_0 hA3_1 hA3_2 hA3_3 hA3_4
                go_wp2_with fail
                refine (hsit4.putX Hk.out (p, t, kd, rs, x) Hok.out (by omega) Hbo.out.rx).mono ?_
                rintro e w4 ⟨vn, rfl, hsit5, hm5⟩
                clear hA3_l hA3_0 hA3_1 hA3_2 hA3_3 hA3_4
                have hA4 := hA3.moves hm5 Hnx.out
                clear hsit4 hm5 hA3
                have hA4_l := hA4.lt; have hA4_0 := hA4.cell 0; have hA4_1 := hA4.cell 1; have hA4_2 := hA4.cell 2; have hA4_3 := hA4.cell 3; have hA4_4 := hA4.cell 4; simp at hA4_0 hA4_1 hA4_2 hA4_3 hA4_4
                go_wp2_with fail
                refine (hsit5.putY Hk.out (p, t, kd, rs, x) Hok.out (by omega) Hbo.out.rx).mono ?_
                rintro e w5 ⟨vm, rfl, hsit6⟩
                have Hbn := Lib.hid (Hbo.out.putX Hok.out)
                clear hA4_l hA4_0 hA4_1 hA4_2 hA4_3 hA4_4
                clear hsit5 hA4
                generalize putL lx (p, t, kd, rs, x) = ln at *
                generalize putB lx (p, t, kd, rs, x) = jn at *
                generalize aF (p, t, kd, rs, x) = je at *
                have hq1 : (jn != jn) = false := by simp
                have hq2 : (je != je) = false := by simp
                go_wp2_with fail
                go_meet
                exact ⟨rfl, vn, vo, vm, vp, ln, lo, _, rfl, hsit6, Hbn.out⟩
            case rest =>
              clear hsit4 Hbo hbl hbl2 hA3 Hok Hnx Hno
              obtain ⟨rfl, vx, vo, vy, vp, lx, lo, W5, hW5, hsit, hbo⟩ := hcut
              subst hW5
              have hbl := hbo.nx
              have Hbo := Lib.hid hbo
              clear hbo
              go_wp2_with fail
              refine (arrivalsP_any _ hsit.x (by omega)).mono ?_
              rintro e w6 ⟨v6, rfl, hown6, hb6⟩
              have hsit6 := hsit.below hb6
              obtain ⟨a6, c6, rfl, hsa6, -, -⟩ := hown6.form
              clear hown6 hsit hb6
              go_wp2_with fail
              refine (arrivalsR_any _ hsit6.y (by omega)).mono ?_
              rintro e w7 ⟨v7, rfl, hown7, hb7⟩
              have hsit7 := hsit6.below hb7
              have hsa6' := hsa6.below hb7
              obtain ⟨a7, c7, rfl, hsa7, -, -⟩ := hown7.form
              clear hown7 hsit6 hb7 hsa6
              go_wp2_with fail
              refine (equalArv_any lx a6 a7 c6 c7 _ hsa6' hsa7 (by omega)).mono ?_
              rintro e w8 ⟨rfl, k8, rfl⟩
              have hsit8 := hsit7.below (below_drewN (Below.refl _ _) k8)
              clear hsit7 hsa6' hsa7
              go_wp2_with fail
              go_roundg (R - (j + 1))
              case measure => have := hgj.out; omega
              case rel => exact ⟨j + 1, vx, vo, vy, vp, lx, lo, by go_num, by omega, rfl, hsit8.up (by omega), Hbo.out⟩
          · obtain rfl : j = R := by omega
            have hbF := HFb.out _ hsit.kw
            clear hsit hbo
            go_wp2_with fail
            refine (submits_any _ (HEb.out _ hbF)).mono ?_
            rintro e w1 ⟨rfl, hb1⟩
            have hbG := below_next hbF hb1
            clear hbF hb1
            go_wp2_with fail
            go_ret
            exact ⟨rfl, hbG⟩
      · have Hq := Lib.hid hcf1
        generalize callFault o a f1 s = c1 at *
        have hq1 : (c1 != 0) = true := by simpa using hcf1
        have hq2 : (c1 != c1) = false := by simp
        have hq3 : (c1 == c1) = true := by simp
        clear hcf1 hC7 hBx7 hsrx7 s7 Hnb7 HR0 HR1
        have hO7_l := hO7.lt; have hO7_0 := hO7.cell 0; have hO7_1 := hO7.cell 1; have hO7_2 := hO7.cell 2; have hO7_3 := hO7.cell 3; simp at hO7_0 hO7_1 hO7_2 hO7_3
        go_wp2_with fail
        refine (HF1.out _ hsa7).mono ?_
        rintro e w8 ⟨rfl, hb8⟩
        have hO8 := hO7.below hb8
        have hsa8 := hsa7.below hb8
        have hbw8 := below_next hbw7 hb8
        have hE8 := HEb.out _ hbw8
        clear hO7_l hO7_0 hO7_1 hO7_2 hO7_3
        clear hO7 hsa7 hbw7 hb8
        have hO8_l := hO8.lt; have hO8_0 := hO8.cell 0; have hO8_1 := hO8.cell 1; have hO8_2 := hO8.cell 2; have hO8_3 := hO8.cell 3; simp at hO8_0 hO8_1 hO8_2 hO8_3
        go_wp2_with fail
        refine (submits_any _ hE8).mono ?_
        rintro e w9 ⟨rfl, hb9⟩
        have hO9 := hO8.below hb9
        have hsa9 := hsa8.below hb9
        have hbw9 := below_next hbw8 hb9
        clear hO8_l hO8_0 hO8_1 hO8_2 hO8_3
        clear hO8 hsa8 hbw8 hb9 hE8
        have hO9_l := hO9.lt; have hO9_0 := hO9.cell 0; have hO9_1 := hO9.cell 1; have hO9_2 := hO9.cell 2; have hO9_3 := hO9.cell 3; simp at hO9_0 hO9_1 hO9_2 hO9_3
        go_wp2_with fail
        refine (HF1.out _ hsa9).mono ?_
        rintro e w10 ⟨rfl, hb10⟩
        have hbF := below_next hbw9 hb10
        clear hO9_l hO9_0 hO9_1 hO9_2 hO9_3
        clear hO9 hsa9 hbw9 hb10
        go_wp2_with fail
        go_ret
        exact ⟨rfl, hbF⟩
  · have HF0 := Lib.hid (fun W h => HF.out f W h)
    have hE3 := HEb.out _ hbw3
    have Hq := Lib.hid hcf
    generalize callFault o a f s = cf at *
    have hq1 : (cf != 0) = true := by simpa using hcf
    have hq2 : (cf == cf) = true := by simp
    clear hcf hC3 hsa3 hs3 Hb3
    go_wp2_with fail
    refine (submits_any _ hE3).mono ?_
    rintro e w4 ⟨rfl, hb4⟩
    have hbF := below_next hbw3 hb4
    clear hb4 hbw3 hE3
    go_wp2_with fail
    go_ret
    exact ⟨rfl, hbF⟩
end Go.Proofs.YtifflpilnpcmoaaGreatDoor.boxesKept
