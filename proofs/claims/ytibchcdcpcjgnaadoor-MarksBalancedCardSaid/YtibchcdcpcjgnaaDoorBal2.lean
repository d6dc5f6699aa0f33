/- Balanced marks: levels, balanced. -/
import Derived.Test.YtibchcdcpcjgnaaDoorBal1
namespace Go.Proofs.YtibchcdcpcjgnaaDoor
open Go.RowKit
set_option linter.unusedVariables false
set_option linter.unusedSimpArgs false

theorem Tryd.infoLevel : (Tryd.prog.info? 39).map (fun i => (i.zero, i.size, i.bytes)) = some (some (.agg #[.string ⟨#[]⟩, .int .i64 0]), 2, 24) := by kernel_rfl
theorem mget_mem {es : List (ByteArray × Value)} (hn : (es.map (·.1)).Nodup) {k : ByteArray} {v : Value} (h : (k, v) ∈ es) : mget es k = some v := by
  induction es with
  | nil => cases h
  | cons x r ih =>
    rw [List.map_cons, List.nodup_cons] at hn
    unfold mget
    rcases List.mem_cons.1 h with h | h
    · subst h; simp
    · have : x.1 ≠ k := fun e => hn.1 (by rw [e]; exact List.mem_map_of_mem (f := (·.1)) h)
      rw [if_neg this]
      exact ih hn.2 h
theorem valOf_mem {es : List (ByteArray × Value)} (hn : (es.map (·.1)).Nodup) {k : ByteArray} {v : Value} (h : (k, v) ∈ es) : valOf es k = v := by
  unfold valOf; rw [mget_mem hn h]; rfl

set_option maxHeartbeats 400000 in
theorem levels_any (ks : List ByteArray) (a : Option Addr) (cap b : Nat) (W : ByteArray → Int) (w : World) (hs : SA w a ks) (hl : ks.length ≤ 1000000) (hM : MI w b W) :
    Calls Tryd.prog 16 #[.slice a ks.length cap, .map (some b)] w (GivesOwn 39 (ks.map (fun k => ((k, W k) : Skill))) w) := by
  go_enter Tryd.func16, Tryd.ntmps16
  go_wp2_with fail
  go_loopg [5, 10] ks.length (fun gk v i wr => ∃ k : Nat, i = .int .i64 k ∧ k ≤ ks.length ∧ Hid (gk = ks.length - k) ∧ Own w.heap.size 39 wr v ((ks.take k).map (fun k => ((k, W k) : Skill))) ∧ Below w.heap.size w wr)
  case atStart => exact ⟨0, rfl, by omega, rfl, Own.nil _ _ _, Below.refl _ _⟩
  case round =>
    obtain ⟨k, rfl, hk, hgk, hown, hb⟩ := hrel
    by_cases hlt : k < ks.length
    · obtain ⟨ab, off, ha, c0⟩ := (hs.below hb).str hlt
      have htake := List.take_succ_eq_append_getElem hlt
      have hlen : ((ks.take k).map (fun k => ((k, W k) : Skill))).length ≤ 1000000 := by rw [List.length_map, List.length_take]; omega
      have hz := hb.size
      rw [ha]
      generalize hx : ks[k] = x at *
      have hlk := (hM.below hb).look x
      have Htake := Lib.hid (show (ks.take (k + 1)).map (fun k => ((k, W k) : Skill)) = (ks.take k).map (fun k => ((k, W k) : Skill)) ++ [(x, W x)] by rw [htake, List.map_append]; rfl)
      clear hx htake
      generalize (ks.take k).map (fun k => ((k, W k) : Skill)) = ls at *
      have hown1 := hown.alloc (.cells #[.string x, .int .i64 (W x)] 39)
      have hbo := Box.new wr 39 #[.string x, .int .i64 (W x)]
      go_wp2_with (at_builtin; refine wpList_append_lie (α := Skill) rfl _ _ 29 rfl 39 24 (.agg #[.string ⟨#[]⟩, .int .i64 0]) Tryd.underlying29 Tryd.infoLevel rfl _ ls rfl hown1 (x, W x) wr.heap.size rfl hbo (by omega) (by omega) (by simp; omega) ?_; intro gg cap1 w1 hown2 hgrow hat)
      have hb1 : Below w.heap.size w w1 := Below.grown (w := wr.alloc (.cells #[.string x, .int .i64 (W x)] 39)) (by (repeat' (first | exact Below.refl _ _ | assumption | refine Below.setCell ?_ ?_ _ | refine below_drewN ?_ _ | refine Below.drew ?_ | refine Below.alloc ?_ ?_ _ | (with_reducible refine Below.trans ?_ (Below.mono hb ?_)) | (with_reducible refine Below.trans ?_ (Below.mono hb0 ?_)) | (with_reducible refine Below.trans ?_ (Below.mono hb1 ?_)) | (with_reducible refine Below.trans ?_ (Below.mono hb2 ?_)) | (with_reducible refine Below.trans ?_ (Below.mono hb3 ?_)) | (with_reducible refine Below.trans ?_ (Below.mono hb4 ?_)) | (with_reducible refine Below.trans ?_ (Below.mono hb5 ?_)) | (with_reducible refine Below.trans ?_ (Below.mono hb6 ?_)) | (with_reducible refine Below.trans ?_ (Below.mono hb7 ?_)) | (with_reducible refine Below.trans ?_ (Below.mono hb8 ?_)) | (with_reducible refine Below.trans ?_ (Below.mono hb9 ?_)) | (with_reducible refine Below.trans ?_ (Below.mono hb10 ?_)) | (with_reducible refine Below.trans ?_ (Below.mono hb11 ?_)) | (with_reducible refine Below.trans ?_ (Below.mono hb12 ?_)) | (with_reducible refine Below.trans ?_ (Below.mono hb13 ?_)) | (with_reducible refine Below.trans ?_ (Below.mono hb14 ?_)) | (with_reducible refine Below.trans ?_ (Below.mono hb15 ?_)) | omega | (simp; done) | (simp; omega)))) hgrow (by simp; omega) (fun j hj => (hown1.lt j hj).1)
      go_wp2_with fail
      rw [← ha]
      go_roundg (ks.length - (k + 1))
      case measure => have := hgk.out; omega
      case rel => exact ⟨k + 1, by go_num, by omega, rfl, by rw [Htake.out]; exact hown2, hb1⟩
    · obtain rfl : k = ks.length := by omega
      rw [List.take_length] at hown
      clear hlt
      go_wp2_with fail
      go_ret
      exact ⟨_, rfl, hown, hb⟩


set_option maxRecDepth 100000 in
set_option maxHeartbeats 4000000 in
theorem balanced_any (sb b1 b2 base : Nat) (a : Option Addr) (cap : Nat) (l : List Mark) (es1 es2 : List (ByteArray × Value)) (R : Nat) (w : World) (hst : ShSt sb b1 b2 base a l.length cap l l es1 es2 w) (hok : okScores l) (hl : l.length ≤ 100000) (hR : R ≤ 100) :
    Calls Tryd.prog 15 #[.pointer (some ⟨sb, 0, none⟩), .int .i64 R] w (fun e w' => e = .returned (.tuple #[.map (some w.heap.size), .map (some (w.heap.size + 1))]) ∧ MI w' w.heap.size (bal l R).1 ∧ MI w' (w.heap.size + 1) (bal l R).2 ∧ Below w.heap.size w w') := by
  have hmm := @run_makeMap Tryd.prog
  go_enter Tryd.func15, Tryd.ntmps15
  go_wp2_with fail
  go_loopg [19] R (fun gk i wr => ∃ n : Nat, i = .int .i64 n ∧ n ≤ R ∧ Hid (gk = R - n) ∧ MI wr w.heap.size (bal l n).1 ∧ MI wr (w.heap.size + 1) (bal l n).2 ∧ Below w.heap.size w wr ∧ w.heap.size + 1 < wr.heap.size)
  case atStart => exact ⟨0, rfl, by omega, rfl, (MI.new w).alloc _, MI.newAt _ _ (by simp), by (repeat' (first | exact Below.refl _ _ | assumption | refine Below.setCell ?_ ?_ _ | refine below_drewN ?_ _ | refine Below.drew ?_ | refine Below.alloc ?_ ?_ _ | (with_reducible refine Below.trans ?_ (Below.mono hb ?_)) | (with_reducible refine Below.trans ?_ (Below.mono hb0 ?_)) | (with_reducible refine Below.trans ?_ (Below.mono hb1 ?_)) | (with_reducible refine Below.trans ?_ (Below.mono hb2 ?_)) | (with_reducible refine Below.trans ?_ (Below.mono hb3 ?_)) | (with_reducible refine Below.trans ?_ (Below.mono hb4 ?_)) | (with_reducible refine Below.trans ?_ (Below.mono hb5 ?_)) | (with_reducible refine Below.trans ?_ (Below.mono hb6 ?_)) | (with_reducible refine Below.trans ?_ (Below.mono hb7 ?_)) | (with_reducible refine Below.trans ?_ (Below.mono hb8 ?_)) | (with_reducible refine Below.trans ?_ (Below.mono hb9 ?_)) | (with_reducible refine Below.trans ?_ (Below.mono hb10 ?_)) | (with_reducible refine Below.trans ?_ (Below.mono hb11 ?_)) | (with_reducible refine Below.trans ?_ (Below.mono hb12 ?_)) | (with_reducible refine Below.trans ?_ (Below.mono hb13 ?_)) | (with_reducible refine Below.trans ?_ (Below.mono hb14 ?_)) | (with_reducible refine Below.trans ?_ (Below.mono hb15 ?_)) | omega | (simp; done) | (simp; omega))), by simp⟩
  case round =>
    clear hmm
    obtain ⟨n, rfl, hn, hgk, hMd, hMs, hb, hz2⟩ := hrel
    by_cases hlt : n < R
    · obtain ⟨wo, rfl⟩ : ∃ wo : World, wo = wr := ⟨_, rfl⟩
      have hS := (hst.below hb).box
      have HW0 := Lib.hid (fun q h => (bal_none1 l n q h).trans (bal_none1 l (n + 1) q h).symm)
      have HW0b := Lib.hid (fun q h => (bal_none2 l n q h).trans (bal_none2 l (n + 1) q h).symm)
      have HWn : Hid (∀ p, sel (fun x => x.1) p l ≠ [] → (bal l (n + 1)).1 p = sumF (fun x => x.2.1) (bal l n).2 (sel (fun x => x.1) p l) / ((sel (fun x => x.1) p l).length : Int)) := fun p h => by rw [bal]; simp only; rw [stepF, if_neg h]
      have HWnb : Hid (∀ p, sel (fun x => x.2.1) p l ≠ [] → (bal l (n + 1)).2 p = sumF (fun x => x.1) (bal l (n + 1)).1 (sel (fun x => x.2.1) p l) / ((sel (fun x => x.2.1) p l).length : Int)) := fun p h => by rw [bal]; simp only; rw [stepF, if_neg h]
      have HB : Hid (∀ q, -3000000000 ≤ (bal l n).2 q ∧ (bal l n).2 q ≤ 3000000000) := fun q => by have := (bal_bd l hok n).2 q; omega
      have HBb : Hid (∀ q, -3000000000 ≤ (bal l (n + 1)).1 q ∧ (bal l (n + 1)).1 q ≤ 3000000000) := fun q => by have := (bal_bd l hok (n + 1)).1 q; omega
      generalize (bal l n).1 = Wo at *
      generalize (bal l n).2 = B at *
      generalize hWa : (bal l (n + 1)).1 = Wn at *
      have HWa := Lib.hid hWa
      clear hWa
      generalize hWb : (bal l (n + 1)).2 = Wnb at *
      have HWb := Lib.hid hWb
      clear hWb
      have hS_l := hS.lt; have hS_0 := hS.cell 0; have hS_1 := hS.cell 1; have hS_2 := hS.cell 2; simp at hS_0 hS_1 hS_2
      go_wp2_with ((refine wpList_range_box rfl _ 53 rfl 9 26 Tryd.underlying53 b1 es1 rfl (hst.below hb).one.box ?_; intro o' hI))
      go_frame
      generalize hro : wo.heap.size = ri at *
      have hri : w.heap.size + 1 < ri := by omega
      have hb0 := hb.alloc (by omega) o'
      have hMd0 := hMd.alloc o'
      have hMs0 := hMs.alloc o'
      have hz0 : ri < (wo.alloc o').heap.size := by simp; omega
      have hnd0 := hst.one.nodup
      have hky0 := hst.one.keys
      have hmx : mixF (es1.map (·.1)) Wo Wn = Wo := mixF_all fun q hq => HW0.out q (fun h => hq ((hky0 q).2 h))
      have Hnd0 := Lib.hid hnd0
      have Hky0 := Lib.hid hky0
      have Hmx := Lib.hid hmx
      clear hMd hMs hb hnd0 hky0 hmx hro hz2
      clear hS_l hS_0 hS_1 hS_2
      go_loopg [] es1.length (fun gk wr => ∃ left : List (ByteArray × Value), Hid (gk = left.length) ∧ IBox wr ri b1 es1 left ∧ Hid ((left.map (·.1)).Nodup) ∧ Hid (∀ p ∈ left, p ∈ es1) ∧ MI wr w.heap.size (mixF (left.map (·.1)) Wo Wn) ∧ MI wr (w.heap.size + 1) B ∧ Below w.heap.size w wr ∧ ri < wr.heap.size)
      case atStart => exact ⟨es1, rfl, hI, Hnd0.out, fun p hp => hp, by rw [Hmx.out]; exact hMd0, hMs0, hb0, hz0⟩
      clear hI hb0 hMd0 hMs0 hz0
      obtain ⟨left, hgk2, hI, hnd, hsub, hMd, hMs, hb, hz⟩ := hrel
      have hzz := hb.size
      go_wp2_with ((refine wpList_next_box rfl _ rfl ri b1 es1 left rfl hI ?_ ?_))
      rotate_left 1
      · intro p0 kk v q w' hleft hI2 hent hg hsz
        have hin : (kk, v) ∈ es1 := hsub.out _ (by rw [hleft]; simp)
        have hb2 : Below w.heap.size w w' := hb.grown hg (by omega) (by rintro j hj; cases hj; omega)
        have hMd2 := hMd.grown hg (by simp; omega)
        have hMs2 := hMs.grown hg (by simp; omega)
        have hbS : b1 < w.heap.size := hst.one.box.lt
        have hval := (hst.below hb2).one.vals kk
        rw [valOf_mem Hnd0.out hin] at hval
        have hne : sel (fun x => x.1) kk l ≠ [] := by rw [Ne, sel_nil_iff]; exact fun h => h ((Hky0.out kk).1 (List.mem_map_of_mem (f := (·.1)) hin))
        have HWk := Lib.hid (HWn.out kk hne)
        have hoks := okScores_sel (f := (fun x => x.1)) (p := kk) hok
        have hsell : (sel (fun x => x.1) kk l).length ≤ 100000 := Nat.le_trans (List.length_filter_le _ _) hl
        have hselp : 0 < (sel (fun x => x.1) kk l).length := List.length_pos_iff.2 hne
        have hleft' : left.map (·.1) = p0.map (·.1) ++ kk :: q.map (·.1) := by rw [hleft]; simp
        have hnd2 := hnd.out
        rw [hleft'] at hMd2 hnd2
        have Hmix := Lib.hid (mixF_step (Wo := Wo) (Wn := Wn) hnd2)
        have Hnd3 : Hid (((p0 ++ q).map (·.1)).Nodup) := by
          have := hnd2.sublist (List.Sublist.append (List.Sublist.refl _) (List.sublist_cons_self _ _))
          rw [List.map_append]; exact this
        have Hsub3 : Hid (∀ p ∈ p0 ++ q, p ∈ es1) := fun p hp => hsub.out p (by rw [hleft]; simp only [List.mem_append, List.mem_cons] at hp ⊢; exact hp.elim .inl (fun h => .inr (.inr h)))
        have hlen2 : (p0 ++ q).length < left.length := by rw [hleft]; simp
        obtain ⟨av, capv, rfl, hsa, _, _⟩ := hval.sa
        clear hne hin hval hleft hleft' hnd2 hsub hnd hMd hMs hI hb
        generalize sel (fun x => x.1) kk l = ms at *
        go_wp2_with fail
        go_loopg [8, 33] ms.length (fun gk nv iv wx => ∃ j : Nat, iv = .int .i64 j ∧ j ≤ ms.length ∧ Hid (gk = ms.length - j) ∧ nv = .int .i64 (sumF (fun x => x.2.1) B (ms.take j)) ∧ Below w'.heap.size w' wx)
        case atStart => exact ⟨0, rfl, by omega, rfl, rfl, Below.refl _ _⟩
        clear hent
        obtain ⟨j, rfl, hj, hgj, rfl, hbx⟩ := hrel
        have hzx := hbx.size
        by_cases hjl : j < ms.length
        · obtain ⟨mb, moff, ha', c0, c1, c2⟩ := (hsa.below hbx).mark hjl
          have htake := List.take_succ_eq_append_getElem hjl
          have Hsn := Lib.hid (show sumF (fun x => x.2.1) B (ms.take (j + 1)) = _ by rw [htake, sumF_snoc])
          have hbd := sumF_bd (fun x => x.2.1) B 3000000000 HB.out (ms.take j) (fun x hx => hoks x (List.mem_of_mem_take hx))
          have hxs := hoks ms[j] (List.getElem_mem hjl)
          have hbB := HB.out ((fun x => x.2.1) ms[j])
          rw [List.length_take] at hbd
          rw [ha']
          generalize hx : ms[j] = x at *
          obtain ⟨x1, x2, x3⟩ := x
          simp only at c0 c1 c2 hxs hbB Hsn
          clear hx htake
          generalize sumF (fun x => x.2.1) B (ms.take j) = sm at *
          have hlk := ((hMs2.below hbx).alloc (.cells #[.string x1, .string x2, .int .i64 x3] 59)).look x2
          generalize B x2 = bx at *
          go_wp2_with fail
          rw [← ha']
          go_roundg (ms.length - (j + 1))
          case measure => have := hgj.out; omega
          case rel => exact ⟨j + 1, by go_num, by omega, rfl, by rw [Hsn.out], by (repeat' (first | exact Below.refl _ _ | assumption | refine Below.setCell ?_ ?_ _ | refine below_drewN ?_ _ | refine Below.drew ?_ | refine Below.alloc ?_ ?_ _ | (with_reducible refine Below.trans ?_ (Below.mono hb ?_)) | (with_reducible refine Below.trans ?_ (Below.mono hb0 ?_)) | (with_reducible refine Below.trans ?_ (Below.mono hb1 ?_)) | (with_reducible refine Below.trans ?_ (Below.mono hb2 ?_)) | (with_reducible refine Below.trans ?_ (Below.mono hb3 ?_)) | (with_reducible refine Below.trans ?_ (Below.mono hb4 ?_)) | (with_reducible refine Below.trans ?_ (Below.mono hb5 ?_)) | (with_reducible refine Below.trans ?_ (Below.mono hb6 ?_)) | (with_reducible refine Below.trans ?_ (Below.mono hb7 ?_)) | (with_reducible refine Below.trans ?_ (Below.mono hb8 ?_)) | (with_reducible refine Below.trans ?_ (Below.mono hb9 ?_)) | (with_reducible refine Below.trans ?_ (Below.mono hb10 ?_)) | (with_reducible refine Below.trans ?_ (Below.mono hb11 ?_)) | (with_reducible refine Below.trans ?_ (Below.mono hb12 ?_)) | (with_reducible refine Below.trans ?_ (Below.mono hb13 ?_)) | (with_reducible refine Below.trans ?_ (Below.mono hb14 ?_)) | (with_reducible refine Below.trans ?_ (Below.mono hb15 ?_)) | omega | (simp; done) | (simp; omega)))⟩
        · obtain rfl : j = ms.length := by omega
          rw [List.take_length]
          have hbd := sumF_bd (fun x => x.2.1) B 3000000000 HB.out ms hoks
          have hMd3 := hMd2.below hbx
          have hMs3 := hMs2.below hbx
          have hI3 := hI2.below hbx
          have hb3 := hb2.trans (hbx.mono hb2.size)
          clear hjl hbx hMd2 hMs2 hI2 hb2 hgj
          generalize sumF (fun x => x.2.1) B ms = sm at *
          go_wp2_with fail
          refine (floorB_any _ _ _ (by omega) (by omega) (by omega)).mono ?_
          rintro e w'' ⟨rfl, rfl⟩
          go_wp2_with (at_mapUpdate; refine wpList_store_int rfl _ _ _ rfl w.heap.size _ rfl hMd3 kk rfl (sm / (ms.length : Int)) rfl ?_; intro W5 hM5 hg5 hs5)
          have hM6 : MI W5 w.heap.size (mixF ((p0 ++ q).map (·.1)) Wo Wn) := by
            rw [← HWk.out, Hmix.out, ← List.map_append] at hM5
            exact hM5
          have hI5 := hI3.same (hg5.block ri hI3.lt.1 (by simp; omega)) (hg5.block b1 hI3.lt.2 (by simp; omega))
          have hMs5 := hMs3.grown hg5 (by simp)
          have hb5 : Below w.heap.size w W5 := hb3.grown hg5 hb3.size (by rintro j hj; cases hj; omega)
          clear hM5 hMd3 hMs3 hI3 hb3 hg5
          go_wp2_with fail
          go_roundg (p0 ++ q).length
          case measure => have := hgk2.out; omega
          case rel => exact ⟨p0 ++ q, rfl, hI5, Hnd3, Hsub3, hM6, hMs5, hb5, by omega⟩
      intro hnil
      have hMd1 : MI wr w.heap.size Wn := by rw [hnil, List.map_nil, mixF_nil] at hMd; exact hMd
      clear hnil hMd hI hnd hsub Hnd0 Hky0 Hmx hgk2
      obtain ⟨wz, rfl⟩ : ∃ wz : World, wz = wr := ⟨_, rfl⟩
      have hz3 : w.heap.size + 1 < wz.heap.size := by omega
      clear hz hzz hri
      have hS := (hst.below hb).box
      have hMd := hMs
      have hMs := hMd1
      clear hMd1
      have hz2 := hz3
      clear hz3
      have hS_l := hS.lt; have hS_0 := hS.cell 0; have hS_1 := hS.cell 1; have hS_2 := hS.cell 2; simp at hS_0 hS_1 hS_2
      go_wp2_with ((refine wpList_range_box rfl _ 53 rfl 9 26 Tryd.underlying53 b2 es2 rfl (hst.below hb).two.box ?_; intro o' hI))
      go_frame
      generalize hro : wz.heap.size = ri at *
      have hri : w.heap.size + 1 < ri := by omega
      have hb0 := hb.alloc (by omega) o'
      have hMd0 := hMd.alloc o'
      have hMs0 := hMs.alloc o'
      have hz0 : ri < (wz.alloc o').heap.size := by simp; omega
      have hnd0 := hst.two.nodup
      have hky0 := hst.two.keys
      have hmx : mixF (es2.map (·.1)) B Wnb = B := mixF_all fun q hq => HW0b.out q (fun h => hq ((hky0 q).2 h))
      have Hnd0 := Lib.hid hnd0
      have Hky0 := Lib.hid hky0
      have Hmx := Lib.hid hmx
      clear hMd hMs hb hnd0 hky0 hmx hro hz2
      clear hS_l hS_0 hS_1 hS_2
      go_loopg [] es2.length (fun gk wr => ∃ left : List (ByteArray × Value), Hid (gk = left.length) ∧ IBox wr ri b2 es2 left ∧ Hid ((left.map (·.1)).Nodup) ∧ Hid (∀ p ∈ left, p ∈ es2) ∧ MI wr (w.heap.size + 1) (mixF (left.map (·.1)) B Wnb) ∧ MI wr w.heap.size Wn ∧ Below w.heap.size w wr ∧ ri < wr.heap.size)
      case atStart => exact ⟨es2, rfl, hI, Hnd0.out, fun p hp => hp, by rw [Hmx.out]; exact hMd0, hMs0, hb0, hz0⟩
      clear hI hb0 hMd0 hMs0 hz0
      obtain ⟨left, hgk2, hI, hnd, hsub, hMd, hMs, hb, hz⟩ := hrel
      have hzz := hb.size
      go_wp2_with ((refine wpList_next_box rfl _ rfl ri b2 es2 left rfl hI ?_ ?_))
      rotate_left 1
      · intro p0 kk v q w' hleft hI2 hent hg hsz
        have hin : (kk, v) ∈ es2 := hsub.out _ (by rw [hleft]; simp)
        have hb2 : Below w.heap.size w w' := hb.grown hg (by omega) (by rintro j hj; cases hj; omega)
        have hMd2 := hMd.grown hg (by simp; omega)
        have hMs2 := hMs.grown hg (by simp; omega)
        have hbS : b2 < w.heap.size := hst.two.box.lt
        have hval := (hst.below hb2).two.vals kk
        rw [valOf_mem Hnd0.out hin] at hval
        have hne : sel (fun x => x.2.1) kk l ≠ [] := by rw [Ne, sel_nil_iff]; exact fun h => h ((Hky0.out kk).1 (List.mem_map_of_mem (f := (·.1)) hin))
        have HWk := Lib.hid (HWnb.out kk hne)
        have hoks := okScores_sel (f := (fun x => x.2.1)) (p := kk) hok
        have hsell : (sel (fun x => x.2.1) kk l).length ≤ 100000 := Nat.le_trans (List.length_filter_le _ _) hl
        have hselp : 0 < (sel (fun x => x.2.1) kk l).length := List.length_pos_iff.2 hne
        have hleft' : left.map (·.1) = p0.map (·.1) ++ kk :: q.map (·.1) := by rw [hleft]; simp
        have hnd2 := hnd.out
        rw [hleft'] at hMd2 hnd2
        have Hmix := Lib.hid (mixF_step (Wo := B) (Wn := Wnb) hnd2)
        have Hnd3 : Hid (((p0 ++ q).map (·.1)).Nodup) := by
          have := hnd2.sublist (List.Sublist.append (List.Sublist.refl _) (List.sublist_cons_self _ _))
          rw [List.map_append]; exact this
        have Hsub3 : Hid (∀ p ∈ p0 ++ q, p ∈ es2) := fun p hp => hsub.out p (by rw [hleft]; simp only [List.mem_append, List.mem_cons] at hp ⊢; exact hp.elim .inl (fun h => .inr (.inr h)))
        have hlen2 : (p0 ++ q).length < left.length := by rw [hleft]; simp
        obtain ⟨av, capv, rfl, hsa, _, _⟩ := hval.sa
        clear hne hin hval hleft hleft' hnd2 hsub hnd hMd hMs hI hb
        generalize sel (fun x => x.2.1) kk l = ms at *
        go_wp2_with fail
        go_loopg [13, 67] ms.length (fun gk nv iv wx => ∃ j : Nat, iv = .int .i64 j ∧ j ≤ ms.length ∧ Hid (gk = ms.length - j) ∧ nv = .int .i64 (sumF (fun x => x.1) Wn (ms.take j)) ∧ Below w'.heap.size w' wx)
        case atStart => exact ⟨0, rfl, by omega, rfl, rfl, Below.refl _ _⟩
        clear hent
        obtain ⟨j, rfl, hj, hgj, rfl, hbx⟩ := hrel
        have hzx := hbx.size
        by_cases hjl : j < ms.length
        · obtain ⟨mb, moff, ha', c0, c1, c2⟩ := (hsa.below hbx).mark hjl
          have htake := List.take_succ_eq_append_getElem hjl
          have Hsn := Lib.hid (show sumF (fun x => x.1) Wn (ms.take (j + 1)) = _ by rw [htake, sumF_snoc])
          have hbd := sumF_bd (fun x => x.1) Wn 3000000000 HBb.out (ms.take j) (fun x hx => hoks x (List.mem_of_mem_take hx))
          have hxs := hoks ms[j] (List.getElem_mem hjl)
          have hbB := HBb.out ((fun x => x.1) ms[j])
          rw [List.length_take] at hbd
          rw [ha']
          generalize hx : ms[j] = x at *
          obtain ⟨x1, x2, x3⟩ := x
          simp only at c0 c1 c2 hxs hbB Hsn
          clear hx htake
          generalize sumF (fun x => x.1) Wn (ms.take j) = sm at *
          have hlk := ((hMs2.below hbx).alloc (.cells #[.string x1, .string x2, .int .i64 x3] 59)).look x1
          generalize Wn x1 = bx at *
          go_wp2_with fail
          rw [← ha']
          go_roundg (ms.length - (j + 1))
          case measure => have := hgj.out; omega
          case rel => exact ⟨j + 1, by go_num, by omega, rfl, by rw [Hsn.out], by (repeat' (first | exact Below.refl _ _ | assumption | refine Below.setCell ?_ ?_ _ | refine below_drewN ?_ _ | refine Below.drew ?_ | refine Below.alloc ?_ ?_ _ | (with_reducible refine Below.trans ?_ (Below.mono hb ?_)) | (with_reducible refine Below.trans ?_ (Below.mono hb0 ?_)) | (with_reducible refine Below.trans ?_ (Below.mono hb1 ?_)) | (with_reducible refine Below.trans ?_ (Below.mono hb2 ?_)) | (with_reducible refine Below.trans ?_ (Below.mono hb3 ?_)) | (with_reducible refine Below.trans ?_ (Below.mono hb4 ?_)) | (with_reducible refine Below.trans ?_ (Below.mono hb5 ?_)) | (with_reducible refine Below.trans ?_ (Below.mono hb6 ?_)) | (with_reducible refine Below.trans ?_ (Below.mono hb7 ?_)) | (with_reducible refine Below.trans ?_ (Below.mono hb8 ?_)) | (with_reducible refine Below.trans ?_ (Below.mono hb9 ?_)) | (with_reducible refine Below.trans ?_ (Below.mono hb10 ?_)) | (with_reducible refine Below.trans ?_ (Below.mono hb11 ?_)) | (with_reducible refine Below.trans ?_ (Below.mono hb12 ?_)) | (with_reducible refine Below.trans ?_ (Below.mono hb13 ?_)) | (with_reducible refine Below.trans ?_ (Below.mono hb14 ?_)) | (with_reducible refine Below.trans ?_ (Below.mono hb15 ?_)) | omega | (simp; done) | (simp; omega)))⟩
        · obtain rfl : j = ms.length := by omega
          rw [List.take_length]
          have hbd := sumF_bd (fun x => x.1) Wn 3000000000 HBb.out ms hoks
          have hMd3 := hMd2.below hbx
          have hMs3 := hMs2.below hbx
          have hI3 := hI2.below hbx
          have hb3 := hb2.trans (hbx.mono hb2.size)
          clear hjl hbx hMd2 hMs2 hI2 hb2 hgj
          generalize sumF (fun x => x.1) Wn ms = sm at *
          go_wp2_with fail
          refine (floorB_any _ _ _ (by omega) (by omega) (by omega)).mono ?_
          rintro e w'' ⟨rfl, rfl⟩
          go_wp2_with (at_mapUpdate; refine wpList_store_int rfl _ _ _ rfl (w.heap.size + 1) _ rfl hMd3 kk rfl (sm / (ms.length : Int)) rfl ?_; intro W5 hM5 hg5 hs5)
          have hM6 : MI W5 (w.heap.size + 1) (mixF ((p0 ++ q).map (·.1)) B Wnb) := by
            rw [← HWk.out, Hmix.out, ← List.map_append] at hM5
            exact hM5
          have hI5 := hI3.same (hg5.block ri hI3.lt.1 (by simp; omega)) (hg5.block b2 hI3.lt.2 (by simp; omega))
          have hMs5 := hMs3.grown hg5 (by simp)
          have hb5 : Below w.heap.size w W5 := hb3.grown hg5 hb3.size (by rintro j hj; cases hj; omega)
          clear hM5 hMd3 hMs3 hI3 hb3 hg5
          go_wp2_with fail
          go_roundg (p0 ++ q).length
          case measure => have := hgk2.out; omega
          case rel => exact ⟨p0 ++ q, rfl, hI5, Hnd3, Hsub3, hM6, hMs5, hb5, by omega⟩
      intro hnil
      have hMd1 : MI wr (w.heap.size + 1) Wnb := by rw [hnil, List.map_nil, mixF_nil] at hMd; exact hMd
      clear hnil hMd hI hnd hsub Hnd0 Hky0 Hmx hgk2
      obtain ⟨wz, rfl⟩ : ∃ wz : World, wz = wr := ⟨_, rfl⟩
      have hz3 : w.heap.size + 1 < wz.heap.size := by omega
      clear hz hzz hri
      go_wp2_with fail
      go_roundg (R - (n + 1))
      case measure => have := hgk.out; omega
      case rel => exact ⟨n + 1, by go_num, by omega, rfl, by rw [HWa.out]; exact hMs, by rw [HWb.out]; exact hMd1, hb, hz3⟩
    · obtain rfl : n = R := by omega
      clear hlt
      go_wp2_with fail
      go_ret2
      exact ⟨rfl, hMd, hMs, hb⟩
end Go.Proofs.YtibchcdcpcjgnaaDoor
