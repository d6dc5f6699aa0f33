/- Agreement of the program, walked. -/
import Derived.Test.YtaoomkkhpianlaaGreatDoorAgree2
import Derived.Test.YtaoomkkhpianlaaGreatDoorRegF
namespace Go.Proofs.YtaoomkkhpianlaaGreatDoor
open Go.RowKit Go.Sort
set_option linter.unusedVariables false
set_option linter.unusedSimpArgs false

theorem SA.grownT {α : Type} [Cel α] {w w' : World} {a : Option Addr} {l : List α} {row : Option Nat} (h : SA w a l) (hg : w.grownBy w' row) (hne : ∀ x, a = some x → some x.block ≠ row) : SA w' a l := by
  rcases h with h | ⟨b, off, rfl, h⟩
  · exact .inl h
  · by_cases hl : l = []
    · exact .inl hl
    · exact .inr ⟨b, off, rfl, h.same (hg.block b (h.lt hl) (hne _ rfl))⟩
theorem SA.putOther {α : Type} [Cel α] {w : World} {a : Option Addr} {l : List α} (h : SA w a l) {p : Addr} (hp : ∀ x : Addr, a = some x → x.block ≠ p.block) (v : Value) : SA (w.setCell p v) a l := by
  rcases h with h | ⟨b, off, rfl, h⟩
  · exact .inl h
  · exact .inr ⟨b, off, rfl, h.same (Below.heap_setCell _ _ _ _ (hp _ rfl))⟩
theorem within_bd {l : List Mark} (h : marksFault l = 0) (ks : List ByteArray) (hk : ks.length ≤ 400) : 0 ≤ (within l ks).1 ∧ (within l ks).1 ≤ 160000000000 ∧ 1 ≤ (within l ks).2 ∧ (within l ks).2 ≤ 27720 := by
  have hf := within_fit h ks.length ks rfl
  have hd := Int.le_of_dvd (by decide) hf.2.2.1
  refine ⟨hf.1, ?_, hf.2.1, hd⟩
  have h1 : (14400 * (ks.length : Int)) * (within l ks).2 ≤ 5760000 * 27720 := Int.mul_le_mul (by omega) hd (by omega) (by omega)
  have := hf.2.2.2
  omega

set_option maxRecDepth 100000 in
set_option maxHeartbeats 1000000 in
theorem agreement_any (l : List Mark) (a : Option Addr) (cap : Nat) (w : World) (hs : SA w a l) (hl : l.length ≤ 400) (hks : ∀ x ∈ l, x.1.size ≤ 1000 ∧ x.2.1.size ≤ 1000) :
    Calls Tryz.prog 11 #[.slice a l.length cap] w (Gives (.tuple #[.agg #[.int .i64 (if marksFault l = 0 then agN l (keysOf (fun x => x.1) l) else 0), .int .i64 (if marksFault l = 0 then agD l (keysOf (fun x => x.1) l) else 0)], .int .i64 (marksFault l)]) w) := by
  generalize hq : (if marksFault l = 0 then agN l (keysOf (fun x => x.1) l) else 0) = qn at *
  generalize hr : (if marksFault l = 0 then agD l (keysOf (fun x => x.1) l) else 0) = qd at *
  have HQ := Lib.hid hq
  have HR := Lib.hid hr
  clear hq hr
  go_enter Tryz.func11, Tryz.ntmps11
  go_wp2_with fail
  refine (checked_any l a cap _ (hs.alloc _) (by omega) hks).mono ?_
  rintro e w1 ⟨hb1, h1⟩
  have hz1 := hb1.size
  simp at hz1
  have hR := (Box.new w 30 #[.int .i64 0, .int .i64 0]).below hb1
  rcases h1 with ⟨h0, rfl⟩ | ⟨h0, sb, rfl, hsh, hsb⟩
  · have h0' : (marksFault l != 0) = true := by simpa using h0
    rw [if_neg h0] at HQ HR
    obtain rfl := HQ.out
    obtain rfl := HR.out
    clear h0
    have hR_l := hR.lt; have hR_0 := hR.cell 0; have hR_1 := hR.cell 1; simp at hR_0 hR_1
    have hR_f0 := hR.frozen 0; have hR_f1 := hR.frozen 1
    go_wp2_with fail
    refine bodyPost_ret (v := .tuple #[.agg #[.int .i64 0, .int .i64 0], .int .i64 (marksFault l)]) (by simp only [results, Tryz.results11]; go_simp) rfl ⟨rfl, ?_⟩
    (repeat' (first | exact Below.refl _ _ | assumption | refine Below.setCell ?_ ?_ _ | refine below_drewN ?_ _ | refine Below.drew ?_ | refine Below.alloc ?_ ?_ _ | (with_reducible refine Below.trans ?_ (Below.mono hb ?_)) | (with_reducible refine Below.trans ?_ (Below.mono hb0 ?_)) | (with_reducible refine Below.trans ?_ (Below.mono hb1 ?_)) | (with_reducible refine Below.trans ?_ (Below.mono hb2 ?_)) | (with_reducible refine Below.trans ?_ (Below.mono hb3 ?_)) | (with_reducible refine Below.trans ?_ (Below.mono hb4 ?_)) | (with_reducible refine Below.trans ?_ (Below.mono hb5 ?_)) | (with_reducible refine Below.trans ?_ (Below.mono hb6 ?_)) | (with_reducible refine Below.trans ?_ (Below.mono hb7 ?_)) | (with_reducible refine Below.trans ?_ (Below.mono hb8 ?_)) | (with_reducible refine Below.trans ?_ (Below.mono hb9 ?_)) | (with_reducible refine Below.trans ?_ (Below.mono hb10 ?_)) | (with_reducible refine Below.trans ?_ (Below.mono hb11 ?_)) | (with_reducible refine Below.trans ?_ (Below.mono hb12 ?_)) | (with_reducible refine Below.trans ?_ (Below.mono hb13 ?_)) | (with_reducible refine Below.trans ?_ (Below.mono hb14 ?_)) | (with_reducible refine Below.trans ?_ (Below.mono hb15 ?_)) | omega | (simp; done) | (simp; omega)))
  · rw [if_pos h0] at HQ HR
    obtain ⟨b1, b2, base, a', cap', es1, es2, hst, hsa'⟩ := hsh
    have hS := hst.box
    have H0 := Lib.hid h0
    have hok := fault_scores h0
    clear h0
    have hS_l := hS.lt; have hS_0 := hS.cell 0; have hS_1 := hS.cell 1; have hS_2 := hS.cell 2; simp at hS_0 hS_1 hS_2
    go_wp2_with fail
    refine (zeroC_any _).mono ?_
    rintro e wz ⟨rfl, hbz⟩
    have hzz := hbz.size
    have hstz := hst.below hbz
    have hRz := hR.below hbz
    have hbwz := below_next hb1 hbz
    clear hS_l hS_0 hS_1 hS_2
    have hSz := hstz.box
    clear hst hR hS hbz
    have hS2 := hSz.alloc (.cells #[.int .i64 0, .int .i64 1] 30)
    have hS2_l := hS2.lt; have hS2_0 := hS2.cell 0; have hS2_1 := hS2.cell 1; have hS2_2 := hS2.cell 2; simp at hS2_0 hS2_1 hS2_2
    go_wp2_with fail
    refine (keys_any b1 base (fun x => x.1) l es1 _ (hstz.one.alloc _) (by omega) (fun x hx => (hks x hx).1)).mono ?_
    rintro e wk ⟨vk, rfl, hownk, hbk⟩
    clear hS2_l hS2_0 hS2_1 hS2_2
    obtain ⟨aK, capK, rfl, hsaK, hbK, _⟩ := hownk.sa
    have hF := (Box.new wz 30 #[.int .i64 0, .int .i64 1]).below hbk
    have hzk := hbk.size
    simp at hzk
    have hbzk : Below wz.heap.size wz wk := below_next ((Below.refl _ _).alloc (Nat.le_refl _) _) hbk
    have HbK : Hid (∀ x : Addr, aK = some x → wz.heap.size < x.block ∧ x.block < wk.heap.size) := fun x hx => by have := hbK x hx; simp at this; omega
    have hkl := keysOf_length (fun x => x.1) l
    have hkn : (keysOf (fun x => x.1) l).Nodup := (keysS_rise _).nodup
    have Hkn := Lib.hid hkn
    clear hownk hbK hbk hkn hS2
    generalize keysOf (fun x => x.1) l = ks at *
    go_wp2_with fail
    go_loopg [7, 28] ks.length (fun gk v i wr => ∃ k : Nat, i = .int .i64 k ∧ k ≤ ks.length ∧ Hid (gk = ks.length - k) ∧ Own wk.heap.size 54 wr v (bigs l (ks.take k)) ∧ Box wr wz.heap.size 30 #[.int .i64 (within l (ks.take k)).1, .int .i64 (within l (ks.take k)).2] ∧ SA wr aK ks ∧ Below wz.heap.size wz wr ∧ wk.heap.size ≤ wr.heap.size)
    case atStart => exact ⟨0, rfl, by omega, rfl, Own.nil _ _ _, hF, hsaK, hbzk, Nat.le_refl _⟩
    clear hF hsaK hbzk
    obtain ⟨k, rfl, hk, hgk, hown, hF, hsaK, hbzr, hzr⟩ := hrel
    by_cases hlt : k < ks.length
    · obtain ⟨kb, koff, haK, ck⟩ := hsaK.str hlt
      have htake := List.take_succ_eq_append_getElem hlt
      have Hws := Lib.hid (within_snoc l (ks.take k) ks[k])
      have Hbs := Lib.hid (bigs_snoc l (ks.take k) ks[k])
      rw [← htake] at Hws Hbs
      have hwb := within_bd H0.out (ks.take k) (by rw [List.length_take]; omega)
      have hbl := bigs_le (l := l) (ks.take k) (Hkn.out.sublist (List.take_sublist _ _))
      have HaK := Lib.hid haK
      rw [haK]
      clear haK htake
      generalize ks[k] = p at *
      have hst := hstz.below hbzr
      have hlk := hst.one.look p
      have hval := hstz.one.vals p
      obtain ⟨av, capv, hv, hsavz, _, _⟩ := hval.sa
      have hsav := hsavz.below hbzr
      rw [hv] at hlk
      have hS := hst.box
      have hoks := okScores_sel (f := fun x => x.1) (p := p) hok
      have hmsl : (sel (fun x => x.1) p l).length ≤ 12 := paper_few H0.out p
      have HPP := Lib.hid (paper_part H0.out p)
      unfold wStep at Hws
      unfold ofP at Hws Hbs HPP
      clear hval hv hst
      generalize sel (fun x => x.1) p l = ms at *
      generalize hN0 : (within l (ks.take k)).1 = N0 at *
      generalize hD0 : (within l (ks.take k)).2 = D0 at *
      have HN0 := Lib.hid hN0
      have HD0 := Lib.hid hD0
      clear hN0 hD0
      generalize bigs l (ks.take k) = bg at *
      have hS_l := hS.lt; have hS_0 := hS.cell 0; have hS_1 := hS.cell 1; have hS_2 := hS.cell 2; simp at hS_0 hS_1 hS_2
      by_cases hbig : 1 < ms.length
      · rw [if_pos hbig] at Hws Hbs
        have hpp := HPP.out hbig
        have hbig' : (1 : Int) < (ms.length : Int) := by omega
        have hab := apartI_bd hoks 1200 (by omega)
        have HA := Lib.hid (fun W (h : SA W av ms) => apart_any ms av capv W h (by omega) hoks)
        have HL := Lib.hid (fun W => lowest_any (apartI ms) ((ms.length : Int) - 1) W (by omega) (by omega) (by omega))
        unfold low at HL
        generalize apartI ms = ap at *
        generalize lowN ap ((ms.length : Int) - 1) = q1 at *
        generalize lowD ap ((ms.length : Int) - 1) = q2 at *
        have hm1 := mul_in (x := N0) (y := q2) (X := 160000000000) (Y := 12) (by omega) (by omega) (by omega) (by omega)
        have hm2 := mul_in (x := q1) (y := D0) (X := 14400) (Y := 27720) (by omega) (by omega) (by omega) (by omega)
        have hm3 := mul_in (x := D0) (y := q2) (X := 27720) (Y := 12) (by omega) (by omega) (by omega) (by omega)
        have hm4 := mul_pos D0 q2 (by omega) (by omega)
        have HP := Lib.hid (fun W => plusC_any N0 D0 q1 q2 W (by omega) (by omega) (by omega) (by omega))
        unfold low at HP
        generalize lowN (N0 * q2 + q1 * D0) (D0 * q2) = r1 at *
        generalize lowD (N0 * q2 + q1 * D0) (D0 * q2) = r2 at *
        clear hm1 hm2 hm3 hm4 hab HPP hpp
        have hwn : IntKind.i64.wrap ((ms.length : Int) - 1) = (ms.length : Int) - 1 := IntWalk.i64_in _ (by omega)
        have hF_l := hF.lt; have hF_0 := hF.cell 0; have hF_1 := hF.cell 1; simp at hF_0 hF_1
        go_wp2_with fail
        refine wp_regionF (S := (fun wx => wx.cell? ⟨wz.heap.size, 0, none⟩ = some (.int .i64 N0) ∧ wx.cell? ⟨wz.heap.size, 1, none⟩ = some (.int .i64 D0) ∧ Below wr.heap.size wr wx)) 8 (by kernel_rfl) ?hS (fun hHeld => ?_)
        case hS => exact ⟨hF_0, hF_1, (Below.refl _ _).drew⟩
        refine rtakeF (i := 0) (d := (some 41)) (v := ?_) (n := 40) rfl (by kernel_rfl) (by kernel_rfl) (by kernel_rfl) (by kernel_rfl) (by kernel_rfl) (by kernel_rfl) (fun _ _ _ h => h) (by kernel_rfl) (by assumption) ?_ ?_
        rotate_left 1
        · (intro wI hSI; (try dsimp only at hSI); go_simp; (try with_reducible rfl))
        simp only [Act.put, List.setIfInBounds_toArray, List.set_cons_zero, List.set_cons_succ]
        refine rtakeF (i := 1) (d := (some 42)) (v := ?_) (n := 40) rfl (by kernel_rfl) (by kernel_rfl) (by kernel_rfl) (by kernel_rfl) (by kernel_rfl) (by kernel_rfl) (fun _ _ _ h => h) (by kernel_rfl) (by assumption) ?_ ?_
        rotate_left 1
        · (intro wI hSI; (try dsimp only at hSI); go_simp; (try with_reducible rfl))
        simp only [Act.put, List.setIfInBounds_toArray, List.set_cons_zero, List.set_cons_succ]
        refine rtakeF (i := 3) (d := (some 44)) (v := ?_) (n := 40) rfl (by kernel_rfl) (by kernel_rfl) (by kernel_rfl) (by kernel_rfl) (by kernel_rfl) (by kernel_rfl) (fun _ _ _ h => h) (by kernel_rfl) (by assumption) ?_ ?_
        rotate_left 1
        · (intro wI hSI; (try dsimp only at hSI); go_simp; (try with_reducible rfl))
        simp only [Act.put, List.setIfInBounds_toArray, List.set_cons_zero, List.set_cons_succ]
        refine rtakeF (i := 4) (d := (some 45)) (v := ?_) (n := 40) rfl (by kernel_rfl) (by kernel_rfl) (by kernel_rfl) (by kernel_rfl) (by kernel_rfl) (by kernel_rfl) (fun _ _ _ h => h) (by kernel_rfl) (by assumption) ?_ ?_
        rotate_left 1
        · (intro wI hSI; (try dsimp only at hSI); go_simp; (try with_reducible rfl))
        simp only [Act.put, List.setIfInBounds_toArray, List.set_cons_zero, List.set_cons_succ]
        refine rtakeF (i := 5) (d := (some 46)) (v := ?_) (n := 40) rfl (by kernel_rfl) (by kernel_rfl) (by kernel_rfl) (by kernel_rfl) (by kernel_rfl) (by kernel_rfl) (fun _ _ _ h => h) (by kernel_rfl) (by assumption) ?_ ?_
        rotate_left 1
        · (intro wI hSI; (try dsimp only at hSI); go_simp; (try with_reducible rfl))
        simp only [Act.put, List.setIfInBounds_toArray, List.set_cons_zero, List.set_cons_succ]
        refine rcallF (i := 2) (d := (some 43)) (by kernel_rfl) rfl (by kernel_rfl) (fun K hK => ?_)
        go_simp
        go_at_call 67; refine (HA.out _ (hsav.below hHeld.2.2)).mono ?_; rintro e wa ⟨rfl, hba⟩
        refine hK.out _ _ (.inr ?hS) (fun hHeld0 => ?_)
        case hS => exact ⟨cell_later hba hHeld.1, cell_later hba hHeld.2.1, below_next hHeld.2.2 hba⟩
        clear hK K
        have hHeld := hHeld0.resolve_left (by decide)
        simp only [Act.put, List.setIfInBounds_toArray, List.set_cons_zero, List.set_cons_succ]
        refine rcallF (i := 6) (d := (some 47)) (by kernel_rfl) rfl (by kernel_rfl) (fun K hK => ?_)
        go_simp
        go_at_call 66; refine (HL.out _).mono ?_; rintro e wb ⟨rfl, hbb⟩
        refine hK.out _ _ (.inr ?hS) (fun hHeld0 => ?_)
        case hS => exact ⟨cell_later hbb hHeld.1, cell_later hbb hHeld.2.1, below_next hHeld.2.2 hbb⟩
        clear hK K
        have hHeld := hHeld0.resolve_left (by decide)
        simp only [Act.put, List.setIfInBounds_toArray, List.set_cons_zero, List.set_cons_succ]
        refine rcallF (i := 7) (d := (some 48)) (by kernel_rfl) rfl (by kernel_rfl) (fun K hK => ?_)
        go_simp
        go_at_call 65; refine (HP.out _).mono ?_; rintro e wc ⟨rfl, hbc⟩
        refine hK.out _ _ (.inr ?hS) (fun hHeld0 => ?_)
        case hS => exact ⟨cell_later hbc hHeld.1, cell_later hbc hHeld.2.1, below_next hHeld.2.2 hbc⟩
        clear hK K
        have hHeld := hHeld0.resolve_left (by decide)
        simp only [Act.put, List.setIfInBounds_toArray, List.set_cons_zero, List.set_cons_succ]
        have hFc := hF.below hHeld.2.2
        have hFc_f0 := hFc.frozen 0; have hFc_f1 := hFc.frozen 1
        refine rcallF (i := 8) (d := none) (by kernel_rfl) rfl (by kernel_rfl) (fun K hK => ?_)
        go_simp
        refine hK.out undef _ (.inl rfl) (fun _ => ?_)
        clear hK K
        simp only [Act.put, List.setIfInBounds_toArray, List.set_cons_zero, List.set_cons_succ]
        refine wpAnyF_done (by kernel_rfl) ?_ _
        have hb14 : Below wz.heap.size wz wc := hbzr.trans (hHeld.2.2.mono hbzr.size)
        have hbz1 := (hb14.setCell (p := ⟨wz.heap.size, 0, none⟩) (Nat.le_refl _) (.int .i64 r1)).setCell (p := ⟨wz.heap.size, 1, none⟩) (Nat.le_refl _) (.int .i64 r2)
        have hF1 : Box ((wc.setCell ⟨wz.heap.size, 0, none⟩ (.int .i64 r1)).setCell ⟨wz.heap.size, 1, none⟩ (.int .i64 r2)) wz.heap.size 30 #[.int .i64 r1, .int .i64 r2] := (hFc.set 0 (.int .i64 r1)).set 1 (.int .i64 r2)
        have hown1 := ((hown.below hHeld.2.2).setOther (p := ⟨wz.heap.size, 0, none⟩) (fun b hb => by have := (hown.lt b hb).1; simp; omega) (.int .i64 r1)).setOther (p := ⟨wz.heap.size, 1, none⟩) (fun b hb => by have := (hown.lt b hb).1; simp; omega) (.int .i64 r2)
        have hsaK1 := ((hsaK.below hHeld.2.2).putOther (p := ⟨wz.heap.size, 0, none⟩) (fun x hx => by have := (HbK.out x hx).1; simp; omega) (.int .i64 r1)).putOther (p := ⟨wz.heap.size, 1, none⟩) (fun x hx => by have := (HbK.out x hx).1; simp; omega) (.int .i64 r2)
        have hsz1 : wk.heap.size ≤ ((wc.setCell ⟨wz.heap.size, 0, none⟩ (.int .i64 r1)).setCell ⟨wz.heap.size, 1, none⟩ (.int .i64 r2)).heap.size := by have := hHeld.2.2.size; simp [World.setCell]; omega
        generalize ((wc.setCell ⟨wz.heap.size, 0, none⟩ (.int .i64 r1)).setCell ⟨wz.heap.size, 1, none⟩ (.int .i64 r2)) = W1 at *
        have hsav1 := hsavz.below hbz1
        have hvne : some wz.heap.size ≠ u7.ownBlock := fun e => by have := (hown.lt _ e.symm).1; omega
        have hvK : ∀ x : Addr, aK = some x → some x.block ≠ u7.ownBlock := fun x hx e => by have := (hown.lt _ e.symm).1; have := (HbK.out x hx).2; omega
        have hvb : ∀ j, u7.ownBlock = some j → wz.heap.size ≤ j := fun j hj => by have := (hown.lt _ hj).1; omega
        have Hvne := Lib.hid hvne
        have HvK := Lib.hid hvK
        have Hvb := Lib.hid hvb
        have hmsne : ms ≠ [] := by intro e; rw [e] at hbig; simp at hbig
        clear hHeld hHeld0 hown hsaK hFc hF hb14 hsav hvne hvK hvb hba hbb hbc
        clear HA HL HP hwn
        clear hS_l hS_0 hS_1 hS_2
        go_wp2_with (at_builtin; refine wpList_append_all (α := Mark) rfl _ _ 26 rfl 54 40 (.agg #[.string ⟨#[]⟩, .string ⟨#[]⟩, .int .i64 0]) Tryz.underlying26 Tryz.infoMark rfl u7 bg rfl hown1 ms av capv rfl hsav1 hmsne (by omega) (by omega) (by omega) ?_; intro ga capg W2 hown2 hgrow)
        have hbz2 : Below wz.heap.size wz W2 := hbz1.grown hgrow hbz1.size Hvb.out
        have hsz2 := hgrow.size
        rw [List.length_append] at hown2
        go_wp2_with fail
        rw [← HaK.out]
        go_roundg (ks.length - (k + 1))
        case measure => have := hgk.out; omega
        case rel => exact ⟨k + 1, by go_num, by omega, rfl, by rw [Hbs.out]; exact hown2, by rw [Hws.out]; exact hF1.grown hgrow Hvne.out, hsaK1.grownT hgrow HvK.out, hbz2, by omega⟩
      · rw [if_neg hbig] at Hws Hbs
        rw [List.append_nil] at Hbs
        have hbig' : ¬ (1 : Int) < (ms.length : Int) := by omega
        go_wp2_with fail
        rw [← HaK.out]
        go_roundg (ks.length - (k + 1))
        case measure => have := hgk.out; omega
        case rel => exact ⟨k + 1, by go_num, by omega, rfl, by rw [Hbs.out]; exact hown, by rw [Hws.out, HN0.out, HD0.out]; exact hF, hsaK, hbzr, hzr⟩
    · obtain rfl : k = ks.length := by omega
      rw [List.take_length] at hown hF
      have hwb := within_bd H0.out ks (by omega)
      have hbl := bigs_le (l := l) ks Hkn.out
      have hokb := bigs_ok hok ks
      unfold agN at HQ
      unfold agD at HR
      have hab := apartI_bd hokb 40000 (by omega)
      obtain ⟨av, capv, rfl, hsav, _, _⟩ := hown.sa
      generalize bigs l ks = bg at *
      generalize (within l ks).1 = N0 at *
      generalize (within l ks).2 = D0 at *
      have HA := Lib.hid (fun W (h : SA W av bg) => apart_any bg av capv W h (by omega) hokb)
      generalize apartI bg = ap at *
      have hRr := hRz.below hbzr
      have hbwr : Below w.heap.size w wr := below_next ((Below.refl _ w).alloc (Nat.le_refl _) _) (below_next hbwz hbzr)
      clear hown hlt hsaK hokb
      have hF_l := hF.lt; have hF_0 := hF.cell 0; have hF_1 := hF.cell 1; simp at hF_0 hF_1
      go_wp2_with fail
      refine (HA.out _ hsav).mono ?_
      rintro e wa ⟨rfl, hba⟩
      have hRa := hRr.below hba
      have hbwa := below_next hbwr hba
      have hFa := hF.below hba
      clear hRr hsav HA
      clear hF_l hF_0 hF_1
      by_cases hap : ap = 0
      · subst hap
        rw [if_pos rfl] at HQ HR
        obtain rfl := HQ.out
        obtain rfl := HR.out
        go_wp2_with fail
        refine (oneC_any _).mono ?_
        rintro e wo ⟨rfl, hbo⟩
        have hRo := hRa.below hbo
        have hbwo := below_next hbwa hbo
        have hRo_l := hRo.lt; have hRo_0 := hRo.cell 0; have hRo_1 := hRo.cell 1; simp at hRo_0 hRo_1
        have hRo_f0 := hRo.frozen 0; have hRo_f1 := hRo.frozen 1
        go_wp2_with fail
        refine bodyPost_ret (v := .tuple #[.agg #[.int .i64 1, .int .i64 1], .int .i64 0]) (by simp only [results, Tryz.results11]; go_simp) rfl ⟨by rw [H0.out], ?_⟩
        (repeat' (first | exact Below.refl _ _ | assumption | refine Below.setCell ?_ ?_ _ | refine below_drewN ?_ _ | refine Below.drew ?_ | refine Below.alloc ?_ ?_ _ | (with_reducible refine Below.trans ?_ (Below.mono hb ?_)) | (with_reducible refine Below.trans ?_ (Below.mono hb0 ?_)) | (with_reducible refine Below.trans ?_ (Below.mono hb1 ?_)) | (with_reducible refine Below.trans ?_ (Below.mono hb2 ?_)) | (with_reducible refine Below.trans ?_ (Below.mono hb3 ?_)) | (with_reducible refine Below.trans ?_ (Below.mono hb4 ?_)) | (with_reducible refine Below.trans ?_ (Below.mono hb5 ?_)) | (with_reducible refine Below.trans ?_ (Below.mono hb6 ?_)) | (with_reducible refine Below.trans ?_ (Below.mono hb7 ?_)) | (with_reducible refine Below.trans ?_ (Below.mono hb8 ?_)) | (with_reducible refine Below.trans ?_ (Below.mono hb9 ?_)) | (with_reducible refine Below.trans ?_ (Below.mono hb10 ?_)) | (with_reducible refine Below.trans ?_ (Below.mono hb11 ?_)) | (with_reducible refine Below.trans ?_ (Below.mono hb12 ?_)) | (with_reducible refine Below.trans ?_ (Below.mono hb13 ?_)) | (with_reducible refine Below.trans ?_ (Below.mono hb14 ?_)) | (with_reducible refine Below.trans ?_ (Below.mono hb15 ?_)) | omega | (simp; done) | (simp; omega)))
      · rw [if_neg hap] at HQ HR
        have hap' : (ap == 0) = false := by simpa using hap
        have hlen1 : 1 ≤ bg.length := by omega
        have hm1 := mul_in (x := D0) (y := ap) (X := 27720) (Y := 16000000) (by omega) (by omega) (by omega) (by omega)
        have hm2 := mul_in (x := (bg.length : Int) - 1) (y := N0) (X := 400) (Y := 160000000000) (by omega) (by omega) (by omega) (by omega)
        have hm4 := mul_pos D0 ap (by omega) (by omega)
        have HL := Lib.hid (fun W => lowest_any (D0 * ap - ((bg.length : Int) - 1) * N0) (D0 * ap) W (by omega) (by omega) hm4)
        unfold low at HL
        have hw1 : IntKind.i64.wrap ((bg.length : Int) - 1) = (bg.length : Int) - 1 := IntWalk.i64_in _ (by omega)
        have hw2 : IntKind.i64.wrap (D0 * ap) = D0 * ap := IntWalk.i64_in _ (by omega)
        have hw3 : IntKind.i64.wrap (((bg.length : Int) - 1) * N0) = ((bg.length : Int) - 1) * N0 := IntWalk.i64_in _ (by omega)
        have hw4 : IntKind.i64.wrap (D0 * ap - ((bg.length : Int) - 1) * N0) = D0 * ap - ((bg.length : Int) - 1) * N0 := IntWalk.i64_in _ (by omega)
        rw [HQ.out, HR.out] at HL
        clear hap hm1 hm2 hm4 hwb hab
        have hFa_l := hFa.lt; have hFa_0 := hFa.cell 0; have hFa_1 := hFa.cell 1; simp at hFa_0 hFa_1
        go_wp2_with fail
        refine (HL.out _).mono ?_
        rintro e wo ⟨rfl, hbo⟩
        have hRo := hRa.below hbo
        have hbwo := below_next hbwa hbo
        have hRo_l := hRo.lt; have hRo_0 := hRo.cell 0; have hRo_1 := hRo.cell 1; simp at hRo_0 hRo_1
        have hRo_f0 := hRo.frozen 0; have hRo_f1 := hRo.frozen 1
        go_wp2_with fail
        refine bodyPost_ret (v := .tuple #[.agg #[.int .i64 qn, .int .i64 qd], .int .i64 0]) (by simp only [results, Tryz.results11]; go_simp) rfl ⟨by rw [H0.out], ?_⟩
        (repeat' (first | exact Below.refl _ _ | assumption | refine Below.setCell ?_ ?_ _ | refine below_drewN ?_ _ | refine Below.drew ?_ | refine Below.alloc ?_ ?_ _ | (with_reducible refine Below.trans ?_ (Below.mono hb ?_)) | (with_reducible refine Below.trans ?_ (Below.mono hb0 ?_)) | (with_reducible refine Below.trans ?_ (Below.mono hb1 ?_)) | (with_reducible refine Below.trans ?_ (Below.mono hb2 ?_)) | (with_reducible refine Below.trans ?_ (Below.mono hb3 ?_)) | (with_reducible refine Below.trans ?_ (Below.mono hb4 ?_)) | (with_reducible refine Below.trans ?_ (Below.mono hb5 ?_)) | (with_reducible refine Below.trans ?_ (Below.mono hb6 ?_)) | (with_reducible refine Below.trans ?_ (Below.mono hb7 ?_)) | (with_reducible refine Below.trans ?_ (Below.mono hb8 ?_)) | (with_reducible refine Below.trans ?_ (Below.mono hb9 ?_)) | (with_reducible refine Below.trans ?_ (Below.mono hb10 ?_)) | (with_reducible refine Below.trans ?_ (Below.mono hb11 ?_)) | (with_reducible refine Below.trans ?_ (Below.mono hb12 ?_)) | (with_reducible refine Below.trans ?_ (Below.mono hb13 ?_)) | (with_reducible refine Below.trans ?_ (Below.mono hb14 ?_)) | (with_reducible refine Below.trans ?_ (Below.mono hb15 ?_)) | omega | (simp; done) | (simp; omega)))
end Go.Proofs.YtaoomkkhpianlaaGreatDoor
