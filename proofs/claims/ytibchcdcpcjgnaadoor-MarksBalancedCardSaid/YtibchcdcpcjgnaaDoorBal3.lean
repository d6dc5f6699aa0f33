/- Balanced marks: BalancedOf. -/
import Derived.Test.YtibchcdcpcjgnaaDoorBal2
namespace Go.Proofs.YtibchcdcpcjgnaaDoor
open Go.RowKit
set_option linter.unusedVariables false
set_option linter.unusedSimpArgs false

theorem sel_snoc (f : Mark → ByteArray) (p : ByteArray) (ms : List Mark) (x : Mark) : sel f p (ms ++ [x]) = if f x = p then sel f p ms ++ [x] else sel f p ms := by
  unfold sel
  rw [List.filter_append, List.filter_cons]
  by_cases h : f x = p <;> simp [h]
theorem sel_len (f : Mark → ByteArray) (p : ByteArray) (ms : List Mark) : (sel f p ms).length ≤ ms.length := List.length_filter_le _ _

theorem SA.grownS {α : Type} [Cel α] {w w' : World} {a : Option Addr} {l : List α} {row : Option Nat} (h : SA w a l) (hg : w.grownBy w' row) (hne : ∀ x, a = some x → some x.block ≠ row) : SA w' a l := by
  rcases h with h | ⟨b, off, rfl, h⟩
  · exact .inl h
  · by_cases hl : l = []
    · exact .inl hl
    · exact .inr ⟨b, off, rfl, h.same (hg.block b (h.lt hl) (hne _ rfl))⟩



set_option maxRecDepth 100000 in
set_option maxHeartbeats 4000000 in
theorem balancedOf_any (l : List Mark) (a : Option Addr) (cap : Nat) (R : Nat) (w : World) (hs : SA w a l) (hok : okScores l) (hl : l.length ≤ 100000) (hR : R ≤ 100) :
    Calls Tryd.prog 9 #[.slice a l.length cap, .int .i64 R] w (fun e w' => ∃ v1 v2, e = .returned (.tuple #[v1, v2]) ∧ Own w.heap.size 39 w' v1 ((keysOf (fun x => x.1) l).map (fun k => ((k, (bal l R).1 k) : Skill))) ∧ Own w.heap.size 39 w' v2 ((keysOf (fun x => x.2.1) l).map (fun k => ((k, (bal l R).2 k) : Skill))) ∧ Below w.heap.size w w') := by
  have hmm := @run_makeMap Tryd.prog
  go_enter Tryd.func9, Tryd.ntmps9
  go_wp2_with fail
  go_loopg [27] R (fun gk i wr => ∃ n : Nat, i = .int .i64 n ∧ n ≤ R ∧ Hid (gk = R - n) ∧ MI wr w.heap.size (bal l n).1 ∧ MI wr (w.heap.size + 1) (bal l n).2 ∧ Below w.heap.size w wr ∧ w.heap.size + 1 < wr.heap.size)
  case atStart => exact ⟨0, rfl, by omega, rfl, (MI.new w).alloc _, MI.newAt _ _ (by simp), by (repeat' (first | exact Below.refl _ _ | assumption | refine Below.setCell ?_ ?_ _ | refine below_drewN ?_ _ | refine Below.drew ?_ | refine Below.alloc ?_ ?_ _ | (with_reducible refine Below.trans ?_ (Below.mono hb ?_)) | (with_reducible refine Below.trans ?_ (Below.mono hb0 ?_)) | (with_reducible refine Below.trans ?_ (Below.mono hb1 ?_)) | (with_reducible refine Below.trans ?_ (Below.mono hb2 ?_)) | (with_reducible refine Below.trans ?_ (Below.mono hb3 ?_)) | (with_reducible refine Below.trans ?_ (Below.mono hb4 ?_)) | (with_reducible refine Below.trans ?_ (Below.mono hb5 ?_)) | (with_reducible refine Below.trans ?_ (Below.mono hb6 ?_)) | (with_reducible refine Below.trans ?_ (Below.mono hb7 ?_)) | (with_reducible refine Below.trans ?_ (Below.mono hb8 ?_)) | (with_reducible refine Below.trans ?_ (Below.mono hb9 ?_)) | (with_reducible refine Below.trans ?_ (Below.mono hb10 ?_)) | (with_reducible refine Below.trans ?_ (Below.mono hb11 ?_)) | (with_reducible refine Below.trans ?_ (Below.mono hb12 ?_)) | (with_reducible refine Below.trans ?_ (Below.mono hb13 ?_)) | (with_reducible refine Below.trans ?_ (Below.mono hb14 ?_)) | (with_reducible refine Below.trans ?_ (Below.mono hb15 ?_)) | omega | (simp; done) | (simp; omega))), by simp⟩
  case round =>
    clear hmm
    obtain ⟨n, rfl, hn, hgk, hMd, hMs, hb, hz2⟩ := hrel
    by_cases hlt : n < R
    · obtain ⟨wo, rfl⟩ : ∃ wo : World, wo = wr := ⟨_, rfl⟩
      have HW0 := Lib.hid (fun q h => (bal_none1 l n q h).trans (bal_none1 l (n + 1) q h).symm)
      have HW0b := Lib.hid (fun q h => (bal_none2 l n q h).trans (bal_none2 l (n + 1) q h).symm)
      have HWn : Hid (∀ p, sel (fun x => x.1) p l ≠ [] → (bal l (n + 1)).1 p = sumF (fun x => x.2.1) (bal l n).2 (sel (fun x => x.1) p l) / ((sel (fun x => x.1) p l).length : Int)) := fun p h => by rw [bal]; simp only; rw [stepF, if_neg h]
      have HWnb : Hid (∀ p, sel (fun x => x.2.1) p l ≠ [] → (bal l (n + 1)).2 p = sumF (fun x => x.1) (bal l (n + 1)).1 (sel (fun x => x.2.1) p l) / ((sel (fun x => x.2.1) p l).length : Int)) := fun p h => by rw [bal]; simp only; rw [stepF, if_neg h]
      have HB : Hid (∀ q, -3000000000 ≤ (bal l n).2 q ∧ (bal l n).2 q ≤ 3000000000) := fun q => by have := (bal_bd l hok n).2 q; omega
      have HBb : Hid (∀ q, -3000000000 ≤ (bal l (n + 1)).1 q ∧ (bal l (n + 1)).1 q ≤ 3000000000) := fun q => by have := (bal_bd l hok (n + 1)).1 q; omega
      generalize (bal l n).1 = Wo at *
      generalize (bal l n).2 = B at *
      generalize hWa : (bal l (n + 1)).1 = Wn at *
      have HWa := Lib.hid hWa
      clear hWa
      generalize hWb : (bal l (n + 1)).2 = Wnb at *
      have HWb := Lib.hid hWb
      clear hWb
      go_wp2_with fail
      refine (MarkedPapers_any l a cap _ (hs.below hb) (by omega)).mono ?_
      rintro e w1 ⟨v1, rfl, hown1, hb1⟩
      have hMd1 := hMd.below hb1
      have hMs1 := hMs.below hb1
      have hbw1 := below_next hb hb1
      have hz1 := hb1.size
      obtain ⟨aK, capK, rfl, hsaK, hbK, _⟩ := hown1.sa
      have HbK := Lib.hid hbK
      clear hbK
      have hkl := keysOf_length (fun x => x.1) l
      have hkm := keysOf_mem (fun x => x.1) l
      have hkn : (keysOf (fun x => x.1) l).Nodup := (keysS_rise _).nodup
      have Hmx := Lib.hid (show mixF ((keysOf (fun x => x.1) l).drop 0) Wo Wn = Wo from mixF_all fun q hq => HW0.out q (fun h => hq (by rw [List.drop_zero]; exact (hkm q).2 h)))
      have Hkm := Lib.hid hkm
      have Hkn := Lib.hid hkn
      clear hMd hMs hb hb1 hown1 hkm hkn
      generalize keysOf (fun x => x.1) l = ks at *
      go_wp2_with fail
      go_loopg [32] ks.length (fun gk iv wr => ∃ k : Nat, iv = .int .i64 k ∧ k ≤ ks.length ∧ Hid (gk = ks.length - k) ∧ MI wr w.heap.size (mixF (ks.drop k) Wo Wn) ∧ MI wr (w.heap.size + 1) B ∧ Below w.heap.size w wr ∧ w1.heap.size ≤ wr.heap.size ∧ SA wr aK ks)
      case atStart => exact ⟨0, rfl, by omega, rfl, by rw [Hmx.out]; exact hMd1, hMs1, hbw1, Nat.le_refl _, hsaK⟩
      clear hMd1 hMs1 hbw1 hsaK
      obtain ⟨k, rfl, hk, hgk2, hMd, hMs, hb, hz, hsaK⟩ := hrel
      have hzz := hb.size
      by_cases hklt : k < ks.length
      · obtain ⟨kb, koff, haK, ck⟩ := hsaK.str hklt
        have hdrop := List.drop_eq_getElem_cons hklt
        have hmem := List.getElem_mem hklt
        have Hsame := Lib.hid haK
        rw [haK]
        clear haK
        generalize hpp : ks[k] = p at *
        have hne : sel (fun x => x.1) p l ≠ [] := by rw [Ne, sel_nil_iff]; exact fun h => h ((Hkm.out p).1 hmem)
        have HWk := Lib.hid (HWn.out p hne)
        have hselp : 0 < (sel (fun x => x.1) p l).length := List.length_pos_iff.2 hne
        have Hmix := Lib.hid (mixF_step (p := []) (k := p) (q := ks.drop (k + 1)) (Wo := Wo) (Wn := Wn) (by rw [List.nil_append, ← hdrop]; exact Hkn.out.sublist (List.drop_sublist _ _)))
        rw [hdrop] at hMd
        clear hdrop hpp hne hmem
        obtain ⟨wv, rfl⟩ : ∃ wv : World, wv = wr := ⟨_, rfl⟩
        go_wp2_with fail
        go_loopg [10, 11, 38] l.length (fun gk sv cv jv wr => ∃ j : Nat, jv = .int .i64 j ∧ j ≤ l.length ∧ Hid (gk = l.length - j) ∧ sv = .int .i64 (sumF (fun x => x.2.1) B (sel (fun x => x.1) p (l.take j))) ∧ cv = .int .i64 ((sel (fun x => x.1) p (l.take j)).length : Nat) ∧ Below wv.heap.size wv wr)
        case atStart => exact ⟨0, rfl, by omega, rfl, rfl, rfl, Below.refl _ _⟩
        clear ck
        obtain ⟨j, rfl, hj, hgj, rfl, rfl, hbx⟩ := hrel
        have hzx := hbx.size
        by_cases hjl : j < l.length
        · obtain ⟨mb, moff, ha', c0, c1, c2⟩ := (hs.below (hb.trans (hbx.mono hzz))).mark hjl
          have htake := List.take_succ_eq_append_getElem hjl
          have Hsn := Lib.hid (sel_snoc (fun x => x.1) p (l.take j) l[j])
          rw [← htake] at Hsn
          have hbd := sumF_bd (fun x => x.2.1) B 3000000000 HB.out (sel (fun x => x.1) p (l.take j)) (fun x hx => hok x (List.mem_of_mem_take (List.mem_filter.1 hx).1))
          have hcl := sel_len (fun x => x.1) p (l.take j)
          rw [List.length_take] at hcl
          have hxs := hok l[j] (List.getElem_mem hjl)
          have hbB := HB.out ((fun x => x.2.1) l[j])
          rw [ha']
          generalize hx : l[j] = x at *
          obtain ⟨x1, x2, x3⟩ := x
          simp only at c0 c1 c2 hxs hbB Hsn
          clear hx htake
          generalize hse : sel (fun x => x.1) p (l.take j) = se at *
          have hlk := ((hMs.below hbx).alloc (.cells #[.string x1, .string x2, .int .i64 x3] 59)).look x2
          have Hsf := Lib.hid (sumF_snoc (fun x => x.2.1) B se (x1, x2, x3))
          simp only at Hsf
          generalize B x2 = bx at *
          generalize hsm : sumF (fun x => x.2.1) B se = sm at *
          have HSm := Lib.hid hsm
          clear hsm
          clear hse
          by_cases hxp : x1 = p
          · have hxp' := tl_eq hxp
            rw [if_pos hxp] at Hsn
            have Hxp := Lib.hid hxp
            clear hxp
            go_wp2_with fail
            rw [← ha']
            go_roundg (l.length - (j + 1))
            case measure => have := hgj.out; omega
            case rel => exact ⟨j + 1, by go_num, by omega, rfl, by rw [Hsn.out, Hsf.out]; congr 1; omega, by rw [Hsn.out, List.length_append]; go_num, by (repeat' (first | exact Below.refl _ _ | assumption | refine Below.setCell ?_ ?_ _ | refine below_drewN ?_ _ | refine Below.drew ?_ | refine Below.alloc ?_ ?_ _ | (with_reducible refine Below.trans ?_ (Below.mono hb ?_)) | (with_reducible refine Below.trans ?_ (Below.mono hb0 ?_)) | (with_reducible refine Below.trans ?_ (Below.mono hb1 ?_)) | (with_reducible refine Below.trans ?_ (Below.mono hb2 ?_)) | (with_reducible refine Below.trans ?_ (Below.mono hb3 ?_)) | (with_reducible refine Below.trans ?_ (Below.mono hb4 ?_)) | (with_reducible refine Below.trans ?_ (Below.mono hb5 ?_)) | (with_reducible refine Below.trans ?_ (Below.mono hb6 ?_)) | (with_reducible refine Below.trans ?_ (Below.mono hb7 ?_)) | (with_reducible refine Below.trans ?_ (Below.mono hb8 ?_)) | (with_reducible refine Below.trans ?_ (Below.mono hb9 ?_)) | (with_reducible refine Below.trans ?_ (Below.mono hb10 ?_)) | (with_reducible refine Below.trans ?_ (Below.mono hb11 ?_)) | (with_reducible refine Below.trans ?_ (Below.mono hb12 ?_)) | (with_reducible refine Below.trans ?_ (Below.mono hb13 ?_)) | (with_reducible refine Below.trans ?_ (Below.mono hb14 ?_)) | (with_reducible refine Below.trans ?_ (Below.mono hb15 ?_)) | omega | (simp; done) | (simp; omega)))⟩
          · have hxp' := tl_ne hxp
            rw [if_neg hxp] at Hsn
            clear hxp
            go_wp2_with fail
            rw [← ha']
            go_roundg (l.length - (j + 1))
            case measure => have := hgj.out; omega
            case rel => exact ⟨j + 1, by go_num, by omega, rfl, by rw [Hsn.out, HSm.out], by rw [Hsn.out], by (repeat' (first | exact Below.refl _ _ | assumption | refine Below.setCell ?_ ?_ _ | refine below_drewN ?_ _ | refine Below.drew ?_ | refine Below.alloc ?_ ?_ _ | (with_reducible refine Below.trans ?_ (Below.mono hb ?_)) | (with_reducible refine Below.trans ?_ (Below.mono hb0 ?_)) | (with_reducible refine Below.trans ?_ (Below.mono hb1 ?_)) | (with_reducible refine Below.trans ?_ (Below.mono hb2 ?_)) | (with_reducible refine Below.trans ?_ (Below.mono hb3 ?_)) | (with_reducible refine Below.trans ?_ (Below.mono hb4 ?_)) | (with_reducible refine Below.trans ?_ (Below.mono hb5 ?_)) | (with_reducible refine Below.trans ?_ (Below.mono hb6 ?_)) | (with_reducible refine Below.trans ?_ (Below.mono hb7 ?_)) | (with_reducible refine Below.trans ?_ (Below.mono hb8 ?_)) | (with_reducible refine Below.trans ?_ (Below.mono hb9 ?_)) | (with_reducible refine Below.trans ?_ (Below.mono hb10 ?_)) | (with_reducible refine Below.trans ?_ (Below.mono hb11 ?_)) | (with_reducible refine Below.trans ?_ (Below.mono hb12 ?_)) | (with_reducible refine Below.trans ?_ (Below.mono hb13 ?_)) | (with_reducible refine Below.trans ?_ (Below.mono hb14 ?_)) | (with_reducible refine Below.trans ?_ (Below.mono hb15 ?_)) | omega | (simp; done) | (simp; omega)))⟩
        · obtain rfl : j = l.length := by omega
          rw [List.take_length]
          have hbd := sumF_bd (fun x => x.2.1) B 3000000000 HB.out (sel (fun x => x.1) p l) (okScores_sel hok)
          have hcl := sel_len (fun x => x.1) p l
          have hMd3 := hMd.below hbx
          have hMs3 := hMs.below hbx
          have hb3 := hb.trans (hbx.mono hb.size)
          have hsa3 := hsaK.below hbx
          clear hjl hbx hMd hMs hb hgj hsaK
          generalize sumF (fun x => x.2.1) B (sel (fun x => x.1) p l) = sm at *
          generalize (sel (fun x => x.1) p l).length = cn at *
          go_wp2_with fail
          refine (floored_any _ _ _ (by omega) (by omega) (by omega) (by omega)).mono ?_
          rintro e w'' ⟨rfl, rfl⟩
          go_wp2_with (at_mapUpdate; refine wpList_store_int rfl _ _ _ rfl w.heap.size _ rfl hMd3 p rfl (sm / (cn : Int)) rfl ?_; intro W5 hM5 hg5 hs5)
          have hM6 : MI W5 w.heap.size (mixF (ks.drop (k + 1)) Wo Wn) := by
            rw [← HWk.out] at hM5
            exact Hmix.out ▸ hM5
          have hMs5 := hMs3.grown hg5 (by simp)
          have hb5 : Below w.heap.size w W5 := hb3.grown hg5 hb3.size (by rintro j hj; cases hj; omega)
          have hsa5 : SA W5 aK ks := hsa3.grownS hg5 (fun x hx e => by have := (HbK.out x hx).1; have e' := Option.some.inj e; omega)
          clear hM5 hMd3 hMs3 hb3 hg5 hsa3
          rw [← Hsame.out]
          go_wp2_with fail
          go_roundg (ks.length - (k + 1))
          case measure => have := hgk2.out; omega
          case rel => exact ⟨k + 1, by go_num, by omega, rfl, hM6, hMs5, hb5, by omega, hsa5⟩
      obtain rfl : k = ks.length := by omega
      rw [List.drop_length, mixF_nil] at hMd
      clear hklt hgk2 hk hsaK Hkm Hkn Hmx
      obtain ⟨wz, rfl⟩ : ∃ wz : World, wz = wr := ⟨_, rfl⟩
      have hz3 : w.heap.size + 1 < wz.heap.size := by omega
      clear hz hzz hz1 hz2
      have hMx := hMd
      clear hMd
      have hMd := hMs
      clear hMs
      have hMs := hMx
      clear hMx
      have hz2 := hz3
      clear hz3
      go_wp2_with fail
      refine (Markers_any l a cap _ (hs.below hb) (by omega)).mono ?_
      rintro e w1 ⟨v1, rfl, hown1, hb1⟩
      have hMd1 := hMd.below hb1
      have hMs1 := hMs.below hb1
      have hbw1 := below_next hb hb1
      have hz1 := hb1.size
      obtain ⟨aK, capK, rfl, hsaK, hbK, _⟩ := hown1.sa
      have HbK := Lib.hid hbK
      clear hbK
      have hkl := keysOf_length (fun x => x.2.1) l
      have hkm := keysOf_mem (fun x => x.2.1) l
      have hkn : (keysOf (fun x => x.2.1) l).Nodup := (keysS_rise _).nodup
      have Hmx := Lib.hid (show mixF ((keysOf (fun x => x.2.1) l).drop 0) B Wnb = B from mixF_all fun q hq => HW0b.out q (fun h => hq (by rw [List.drop_zero]; exact (hkm q).2 h)))
      have Hkm := Lib.hid hkm
      have Hkn := Lib.hid hkn
      clear hMd hMs hb hb1 hown1 hkm hkn
      generalize keysOf (fun x => x.2.1) l = ks at *
      go_wp2_with fail
      go_loopg [70] ks.length (fun gk iv wr => ∃ k : Nat, iv = .int .i64 k ∧ k ≤ ks.length ∧ Hid (gk = ks.length - k) ∧ MI wr (w.heap.size + 1) (mixF (ks.drop k) B Wnb) ∧ MI wr w.heap.size Wn ∧ Below w.heap.size w wr ∧ w1.heap.size ≤ wr.heap.size ∧ SA wr aK ks)
      case atStart => exact ⟨0, rfl, by omega, rfl, by rw [Hmx.out]; exact hMd1, hMs1, hbw1, Nat.le_refl _, hsaK⟩
      clear hMd1 hMs1 hbw1 hsaK
      obtain ⟨k, rfl, hk, hgk2, hMd, hMs, hb, hz, hsaK⟩ := hrel
      have hzz := hb.size
      by_cases hklt : k < ks.length
      · obtain ⟨kb, koff, haK, ck⟩ := hsaK.str hklt
        have hdrop := List.drop_eq_getElem_cons hklt
        have hmem := List.getElem_mem hklt
        have Hsame := Lib.hid haK
        rw [haK]
        clear haK
        generalize hpp : ks[k] = p at *
        have hne : sel (fun x => x.2.1) p l ≠ [] := by rw [Ne, sel_nil_iff]; exact fun h => h ((Hkm.out p).1 hmem)
        have HWk := Lib.hid (HWnb.out p hne)
        have hselp : 0 < (sel (fun x => x.2.1) p l).length := List.length_pos_iff.2 hne
        have Hmix := Lib.hid (mixF_step (p := []) (k := p) (q := ks.drop (k + 1)) (Wo := B) (Wn := Wnb) (by rw [List.nil_append, ← hdrop]; exact Hkn.out.sublist (List.drop_sublist _ _)))
        rw [hdrop] at hMd
        clear hdrop hpp hne hmem
        obtain ⟨wv, rfl⟩ : ∃ wv : World, wv = wr := ⟨_, rfl⟩
        go_wp2_with fail
        go_loopg [16, 17, 76] l.length (fun gk sv cv jv wr => ∃ j : Nat, jv = .int .i64 j ∧ j ≤ l.length ∧ Hid (gk = l.length - j) ∧ sv = .int .i64 (sumF (fun x => x.1) Wn (sel (fun x => x.2.1) p (l.take j))) ∧ cv = .int .i64 ((sel (fun x => x.2.1) p (l.take j)).length : Nat) ∧ Below wv.heap.size wv wr)
        case atStart => exact ⟨0, rfl, by omega, rfl, rfl, rfl, Below.refl _ _⟩
        clear ck
        obtain ⟨j, rfl, hj, hgj, rfl, rfl, hbx⟩ := hrel
        have hzx := hbx.size
        by_cases hjl : j < l.length
        · obtain ⟨mb, moff, ha', c0, c1, c2⟩ := (hs.below (hb.trans (hbx.mono hzz))).mark hjl
          have htake := List.take_succ_eq_append_getElem hjl
          have Hsn := Lib.hid (sel_snoc (fun x => x.2.1) p (l.take j) l[j])
          rw [← htake] at Hsn
          have hbd := sumF_bd (fun x => x.1) Wn 3000000000 HBb.out (sel (fun x => x.2.1) p (l.take j)) (fun x hx => hok x (List.mem_of_mem_take (List.mem_filter.1 hx).1))
          have hcl := sel_len (fun x => x.2.1) p (l.take j)
          rw [List.length_take] at hcl
          have hxs := hok l[j] (List.getElem_mem hjl)
          have hbB := HBb.out ((fun x => x.1) l[j])
          rw [ha']
          generalize hx : l[j] = x at *
          obtain ⟨x1, x2, x3⟩ := x
          simp only at c0 c1 c2 hxs hbB Hsn
          clear hx htake
          generalize hse : sel (fun x => x.2.1) p (l.take j) = se at *
          have hlk := ((hMs.below hbx).alloc (.cells #[.string x1, .string x2, .int .i64 x3] 59)).look x1
          have Hsf := Lib.hid (sumF_snoc (fun x => x.1) Wn se (x1, x2, x3))
          simp only at Hsf
          generalize Wn x1 = bx at *
          generalize hsm : sumF (fun x => x.1) Wn se = sm at *
          have HSm := Lib.hid hsm
          clear hsm
          clear hse
          by_cases hxp : x2 = p
          · have hxp' := tl_eq hxp
            rw [if_pos hxp] at Hsn
            have Hxp := Lib.hid hxp
            clear hxp
            go_wp2_with fail
            rw [← ha']
            go_roundg (l.length - (j + 1))
            case measure => have := hgj.out; omega
            case rel => exact ⟨j + 1, by go_num, by omega, rfl, by rw [Hsn.out, Hsf.out]; congr 1; omega, by rw [Hsn.out, List.length_append]; go_num, by (repeat' (first | exact Below.refl _ _ | assumption | refine Below.setCell ?_ ?_ _ | refine below_drewN ?_ _ | refine Below.drew ?_ | refine Below.alloc ?_ ?_ _ | (with_reducible refine Below.trans ?_ (Below.mono hb ?_)) | (with_reducible refine Below.trans ?_ (Below.mono hb0 ?_)) | (with_reducible refine Below.trans ?_ (Below.mono hb1 ?_)) | (with_reducible refine Below.trans ?_ (Below.mono hb2 ?_)) | (with_reducible refine Below.trans ?_ (Below.mono hb3 ?_)) | (with_reducible refine Below.trans ?_ (Below.mono hb4 ?_)) | (with_reducible refine Below.trans ?_ (Below.mono hb5 ?_)) | (with_reducible refine Below.trans ?_ (Below.mono hb6 ?_)) | (with_reducible refine Below.trans ?_ (Below.mono hb7 ?_)) | (with_reducible refine Below.trans ?_ (Below.mono hb8 ?_)) | (with_reducible refine Below.trans ?_ (Below.mono hb9 ?_)) | (with_reducible refine Below.trans ?_ (Below.mono hb10 ?_)) | (with_reducible refine Below.trans ?_ (Below.mono hb11 ?_)) | (with_reducible refine Below.trans ?_ (Below.mono hb12 ?_)) | (with_reducible refine Below.trans ?_ (Below.mono hb13 ?_)) | (with_reducible refine Below.trans ?_ (Below.mono hb14 ?_)) | (with_reducible refine Below.trans ?_ (Below.mono hb15 ?_)) | omega | (simp; done) | (simp; omega)))⟩
          · have hxp' := tl_ne hxp
            rw [if_neg hxp] at Hsn
            clear hxp
            go_wp2_with fail
            rw [← ha']
            go_roundg (l.length - (j + 1))
            case measure => have := hgj.out; omega
            case rel => exact ⟨j + 1, by go_num, by omega, rfl, by rw [Hsn.out, HSm.out], by rw [Hsn.out], by (repeat' (first | exact Below.refl _ _ | assumption | refine Below.setCell ?_ ?_ _ | refine below_drewN ?_ _ | refine Below.drew ?_ | refine Below.alloc ?_ ?_ _ | (with_reducible refine Below.trans ?_ (Below.mono hb ?_)) | (with_reducible refine Below.trans ?_ (Below.mono hb0 ?_)) | (with_reducible refine Below.trans ?_ (Below.mono hb1 ?_)) | (with_reducible refine Below.trans ?_ (Below.mono hb2 ?_)) | (with_reducible refine Below.trans ?_ (Below.mono hb3 ?_)) | (with_reducible refine Below.trans ?_ (Below.mono hb4 ?_)) | (with_reducible refine Below.trans ?_ (Below.mono hb5 ?_)) | (with_reducible refine Below.trans ?_ (Below.mono hb6 ?_)) | (with_reducible refine Below.trans ?_ (Below.mono hb7 ?_)) | (with_reducible refine Below.trans ?_ (Below.mono hb8 ?_)) | (with_reducible refine Below.trans ?_ (Below.mono hb9 ?_)) | (with_reducible refine Below.trans ?_ (Below.mono hb10 ?_)) | (with_reducible refine Below.trans ?_ (Below.mono hb11 ?_)) | (with_reducible refine Below.trans ?_ (Below.mono hb12 ?_)) | (with_reducible refine Below.trans ?_ (Below.mono hb13 ?_)) | (with_reducible refine Below.trans ?_ (Below.mono hb14 ?_)) | (with_reducible refine Below.trans ?_ (Below.mono hb15 ?_)) | omega | (simp; done) | (simp; omega)))⟩
        · obtain rfl : j = l.length := by omega
          rw [List.take_length]
          have hbd := sumF_bd (fun x => x.1) Wn 3000000000 HBb.out (sel (fun x => x.2.1) p l) (okScores_sel hok)
          have hcl := sel_len (fun x => x.2.1) p l
          have hMd3 := hMd.below hbx
          have hMs3 := hMs.below hbx
          have hb3 := hb.trans (hbx.mono hb.size)
          have hsa3 := hsaK.below hbx
          clear hjl hbx hMd hMs hb hgj hsaK
          generalize sumF (fun x => x.1) Wn (sel (fun x => x.2.1) p l) = sm at *
          generalize (sel (fun x => x.2.1) p l).length = cn at *
          go_wp2_with fail
          refine (floored_any _ _ _ (by omega) (by omega) (by omega) (by omega)).mono ?_
          rintro e w'' ⟨rfl, rfl⟩
          go_wp2_with (at_mapUpdate; refine wpList_store_int rfl _ _ _ rfl (w.heap.size + 1) _ rfl hMd3 p rfl (sm / (cn : Int)) rfl ?_; intro W5 hM5 hg5 hs5)
          have hM6 : MI W5 (w.heap.size + 1) (mixF (ks.drop (k + 1)) B Wnb) := by
            rw [← HWk.out] at hM5
            exact Hmix.out ▸ hM5
          have hMs5 := hMs3.grown hg5 (by simp)
          have hb5 : Below w.heap.size w W5 := hb3.grown hg5 hb3.size (by rintro j hj; cases hj; omega)
          have hsa5 : SA W5 aK ks := hsa3.grownS hg5 (fun x hx e => by have := (HbK.out x hx).1; have e' := Option.some.inj e; omega)
          clear hM5 hMd3 hMs3 hb3 hg5 hsa3
          rw [← Hsame.out]
          go_wp2_with fail
          go_roundg (ks.length - (k + 1))
          case measure => have := hgk2.out; omega
          case rel => exact ⟨k + 1, by go_num, by omega, rfl, hM6, hMs5, hb5, by omega, hsa5⟩
      obtain rfl : k = ks.length := by omega
      rw [List.drop_length, mixF_nil] at hMd
      clear hklt hgk2 hk hsaK Hkm Hkn Hmx
      obtain ⟨wz, rfl⟩ : ∃ wz : World, wz = wr := ⟨_, rfl⟩
      have hz3 : w.heap.size + 1 < wz.heap.size := by omega
      clear hz hzz hz1 hz2
      go_wp2_with fail
      go_roundg (R - (n + 1))
      case measure => have := hgk.out; omega
      case rel => exact ⟨n + 1, by go_num, by omega, rfl, by rw [HWa.out]; exact hMs, by rw [HWb.out]; exact hMd, hb, hz3⟩
    · obtain rfl : n = R := by omega
      clear hlt hgk hn
      generalize hW1 : (bal l n).1 = W at *
      generalize hW2 : (bal l n).2 = B at *
      have HW1 := Lib.hid hW1
      have HW2 := Lib.hid hW2
      clear hW1 hW2
      go_wp2_with fail
      refine (MarkedPapers_any l a cap _ (hs.below hb) (by omega)).mono ?_
      rintro e wA ⟨v1, rfl, hown1, hb1⟩
      obtain ⟨aK, capK, rfl, hsaK, hbK, _⟩ := hown1.sa
      have hkl := keysOf_length (fun x => x.1) l
      have hMd1 := hMd.below hb1
      have hMs1 := hMs.below hb1
      have hbw := below_next hb hb1
      have hzw := hbw.size
      have HB1 := Lib.hid hb1
      clear hMd hMs hb hb1 hown1 hbK
      generalize hks : keysOf (fun x => x.1) l = ks1 at *
      have Hks1 := Lib.hid hks
      clear hks
      go_wp2_with fail
      go_loopg [4, 109] ks1.length (fun gk v i wr => ∃ k : Nat, i = .int .i64 k ∧ k ≤ ks1.length ∧ Hid (gk = ks1.length - k) ∧ Own wA.heap.size 39 wr v ((ks1.take k).map (fun k => ((k, W k) : Skill))) ∧ Below wA.heap.size wA wr)
      case atStart => exact ⟨0, rfl, by omega, rfl, Own.nil _ _ _, Below.refl _ _⟩
      obtain ⟨k, rfl, hk, hgk, hown, hb⟩ := hrel
      by_cases hlt : k < ks1.length
      · obtain ⟨ab, off, ha, c0⟩ := (hsaK.below hb).str hlt
        have htake := List.take_succ_eq_append_getElem hlt
        have hlen : ((ks1.take k).map (fun k => ((k, W k) : Skill))).length ≤ 1000000 := by rw [List.length_map, List.length_take]; omega
        have hz := hb.size
        rw [ha]
        generalize hx : ks1[k] = x at *
        have hlk := (hMd1.below hb).look x
        have Htake := Lib.hid (show (ks1.take (k + 1)).map (fun k => ((k, W k) : Skill)) = (ks1.take k).map (fun k => ((k, W k) : Skill)) ++ [(x, W x)] by rw [htake, List.map_append]; rfl)
        clear hx htake
        generalize (ks1.take k).map (fun k => ((k, W k) : Skill)) = ls at *
        have hown1 := hown.alloc (.cells #[.string x, .int .i64 (W x)] 39)
        have hbo := Box.new wr 39 #[.string x, .int .i64 (W x)]
        go_wp2_with (at_builtin; refine wpList_append_lie (α := Skill) rfl _ _ 29 rfl 39 24 (.agg #[.string ⟨#[]⟩, .int .i64 0]) Tryd.underlying29 Tryd.infoLevel rfl _ ls rfl hown1 (x, W x) wr.heap.size rfl hbo (by omega) (by omega) (by simp; omega) ?_; intro gg cap1 w1 hown2 hgrow hat)
        have hb1 : Below wA.heap.size wA w1 := Below.grown (w := wr.alloc (.cells #[.string x, .int .i64 (W x)] 39)) (by (repeat' (first | exact Below.refl _ _ | assumption | refine Below.setCell ?_ ?_ _ | refine below_drewN ?_ _ | refine Below.drew ?_ | refine Below.alloc ?_ ?_ _ | (with_reducible refine Below.trans ?_ (Below.mono hb ?_)) | (with_reducible refine Below.trans ?_ (Below.mono hb0 ?_)) | (with_reducible refine Below.trans ?_ (Below.mono hb1 ?_)) | (with_reducible refine Below.trans ?_ (Below.mono hb2 ?_)) | (with_reducible refine Below.trans ?_ (Below.mono hb3 ?_)) | (with_reducible refine Below.trans ?_ (Below.mono hb4 ?_)) | (with_reducible refine Below.trans ?_ (Below.mono hb5 ?_)) | (with_reducible refine Below.trans ?_ (Below.mono hb6 ?_)) | (with_reducible refine Below.trans ?_ (Below.mono hb7 ?_)) | (with_reducible refine Below.trans ?_ (Below.mono hb8 ?_)) | (with_reducible refine Below.trans ?_ (Below.mono hb9 ?_)) | (with_reducible refine Below.trans ?_ (Below.mono hb10 ?_)) | (with_reducible refine Below.trans ?_ (Below.mono hb11 ?_)) | (with_reducible refine Below.trans ?_ (Below.mono hb12 ?_)) | (with_reducible refine Below.trans ?_ (Below.mono hb13 ?_)) | (with_reducible refine Below.trans ?_ (Below.mono hb14 ?_)) | (with_reducible refine Below.trans ?_ (Below.mono hb15 ?_)) | omega | (simp; done) | (simp; omega)))) hgrow (by simp; omega) (fun j hj => (hown1.lt j hj).1)
        go_wp2_with fail
        rw [← ha]
        go_roundg (ks1.length - (k + 1))
        case measure => have := hgk.out; omega
        case rel => exact ⟨k + 1, by go_num, by omega, rfl, by rw [Htake.out]; exact hown2, hb1⟩
      obtain rfl : k = ks1.length := by omega
      rw [List.take_length] at hown
      have hMd := hMd1.below hb
      have hMs := hMs1.below hb
      have hbz := hbw.trans (hb.mono hzw)
      have hbl := below_next HB1.out hb
      clear HB1
      have hownz := hown.mono (base' := w.heap.size) hzw
      clear hlt hMd1 hMs1 hbw hown hgk hsaK hzw hk
      have hown0 := hownz
      have hb := hbz
      clear hownz hbz
      obtain ⟨wz, rfl⟩ : ∃ wz : World, wz = wr := ⟨_, rfl⟩
      obtain ⟨vz, rfl⟩ : ∃ vz : Value, vz = u4 := ⟨_, rfl⟩
      go_wp2_with fail
      refine (Markers_any l a cap _ (hs.below hb) (by omega)).mono ?_
      rintro e wB ⟨v1, rfl, hown1, hb1⟩
      obtain ⟨aK, capK, rfl, hsaK, hbK, _⟩ := hown1.sa
      have hkl := keysOf_length (fun x => x.2.1) l
      have hMd1 := hMd.below hb1
      have hMs1 := hMs.below hb1
      have hbw := below_next hb hb1
      have hzw := hbw.size
      have HB1 := Lib.hid hb1
      clear hMd hMs hb hb1 hown1 hbK
      generalize hks : keysOf (fun x => x.2.1) l = ks2 at *
      have Hks2 := Lib.hid hks
      clear hks
      go_wp2_with fail
      go_loopg [5, 125] ks2.length (fun gk v i wr => ∃ k : Nat, i = .int .i64 k ∧ k ≤ ks2.length ∧ Hid (gk = ks2.length - k) ∧ Own wB.heap.size 39 wr v ((ks2.take k).map (fun k => ((k, B k) : Skill))) ∧ Below wB.heap.size wB wr)
      case atStart => exact ⟨0, rfl, by omega, rfl, Own.nil _ _ _, Below.refl _ _⟩
      obtain ⟨k, rfl, hk, hgk, hown, hb⟩ := hrel
      by_cases hlt : k < ks2.length
      · obtain ⟨ab, off, ha, c0⟩ := (hsaK.below hb).str hlt
        have htake := List.take_succ_eq_append_getElem hlt
        have hlen : ((ks2.take k).map (fun k => ((k, B k) : Skill))).length ≤ 1000000 := by rw [List.length_map, List.length_take]; omega
        have hz := hb.size
        rw [ha]
        generalize hx : ks2[k] = x at *
        have hlk := (hMs1.below hb).look x
        have Htake := Lib.hid (show (ks2.take (k + 1)).map (fun k => ((k, B k) : Skill)) = (ks2.take k).map (fun k => ((k, B k) : Skill)) ++ [(x, B x)] by rw [htake, List.map_append]; rfl)
        clear hx htake
        generalize (ks2.take k).map (fun k => ((k, B k) : Skill)) = ls at *
        have hown1 := hown.alloc (.cells #[.string x, .int .i64 (B x)] 39)
        have hbo := Box.new wr 39 #[.string x, .int .i64 (B x)]
        go_wp2_with (at_builtin; refine wpList_append_lie (α := Skill) rfl _ _ 29 rfl 39 24 (.agg #[.string ⟨#[]⟩, .int .i64 0]) Tryd.underlying29 Tryd.infoLevel rfl _ ls rfl hown1 (x, B x) wr.heap.size rfl hbo (by omega) (by omega) (by simp; omega) ?_; intro gg cap1 w1 hown2 hgrow hat)
        have hb1 : Below wB.heap.size wB w1 := Below.grown (w := wr.alloc (.cells #[.string x, .int .i64 (B x)] 39)) (by (repeat' (first | exact Below.refl _ _ | assumption | refine Below.setCell ?_ ?_ _ | refine below_drewN ?_ _ | refine Below.drew ?_ | refine Below.alloc ?_ ?_ _ | (with_reducible refine Below.trans ?_ (Below.mono hb ?_)) | (with_reducible refine Below.trans ?_ (Below.mono hb0 ?_)) | (with_reducible refine Below.trans ?_ (Below.mono hb1 ?_)) | (with_reducible refine Below.trans ?_ (Below.mono hb2 ?_)) | (with_reducible refine Below.trans ?_ (Below.mono hb3 ?_)) | (with_reducible refine Below.trans ?_ (Below.mono hb4 ?_)) | (with_reducible refine Below.trans ?_ (Below.mono hb5 ?_)) | (with_reducible refine Below.trans ?_ (Below.mono hb6 ?_)) | (with_reducible refine Below.trans ?_ (Below.mono hb7 ?_)) | (with_reducible refine Below.trans ?_ (Below.mono hb8 ?_)) | (with_reducible refine Below.trans ?_ (Below.mono hb9 ?_)) | (with_reducible refine Below.trans ?_ (Below.mono hb10 ?_)) | (with_reducible refine Below.trans ?_ (Below.mono hb11 ?_)) | (with_reducible refine Below.trans ?_ (Below.mono hb12 ?_)) | (with_reducible refine Below.trans ?_ (Below.mono hb13 ?_)) | (with_reducible refine Below.trans ?_ (Below.mono hb14 ?_)) | (with_reducible refine Below.trans ?_ (Below.mono hb15 ?_)) | omega | (simp; done) | (simp; omega)))) hgrow (by simp; omega) (fun j hj => (hown1.lt j hj).1)
        go_wp2_with fail
        rw [← ha]
        go_roundg (ks2.length - (k + 1))
        case measure => have := hgk.out; omega
        case rel => exact ⟨k + 1, by go_num, by omega, rfl, by rw [Htake.out]; exact hown2, hb1⟩
      obtain rfl : k = ks2.length := by omega
      rw [List.take_length] at hown
      have hMd := hMd1.below hb
      have hMs := hMs1.below hb
      have hbz := hbw.trans (hb.mono hzw)
      have hbl := below_next HB1.out hb
      clear HB1
      have hownz := hown.mono (base' := w.heap.size) hzw
      clear hlt hMd1 hMs1 hbw hown hgk hsaK hzw hk
      go_wp2_with fail
      go_ret2
      exact ⟨vz, u5, rfl, by rw [Hks1.out, HW1.out]; exact hown0.below hbl, by rw [Hks2.out, HW2.out]; exact hownz, hbz⟩
end Go.Proofs.YtibchcdcpcjgnaaDoor
