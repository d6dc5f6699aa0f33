/- The maker of an order of papers: PaperOrder. -/
import Derived.Test.YtcjcdbhobehlpaaGreatDoorStr3
import Derived.Test.YtcjcdbhobehlpaaGreatDoorOrderM
namespace Go.Proofs.YtcjcdbhobehlpaaGreatDoor
open Go.RowKit
set_option linter.unusedVariables false
set_option linter.unusedSimpArgs false

/-- Some strings. -/
def SomeOrd (S : Nat) (B : Int) (w : World) (e : Ending) (w' : World) : Prop :=
 ∃ (oa : Option Addr) (ol : List ByteArray) (oc : Nat), e = .returned (.slice oa ol.length oc) ∧ SA w' oa ol ∧ ol.length ≤ 30 ∧ ol.length ≤ oc ∧ (∀ x ∈ ol, x.size ≤ 1000) ∧ Stp S w w' ∧ Strm S B w'
theorem dropS2 (a : Option Addr) (l : List ByteArray) (c k : Nat) (hk : k ≤ l.length) (hc : l.length ≤ c) : ∃ da dc, (∀ W, (Instr.sliceAt 29 (.slice a l.length c) (some (.int .i64 (k : Nat))) none none).run Tryz.prog W = .ok (.slice da (l.drop k).length dc) W) ∧ (∀ W, SA W a l → SA W da (l.drop k)) ∧ (l.drop k).length ≤ dc := by
 refine ⟨if c = k then a else a.map (·.add (k * 1)), c - k, fun W => ?_, fun W h => ?_, by rw [List.length_drop]; omega⟩
 ·
  rw [List.length_drop]
  simp [Instr.sliceAt, Instr.slice, Instr.sliceBounds, Instr.sliceBound, run_underlying Tryz.underlying29, asIntOf, go_sem, Tryz.sizeOf9, hk]
 ·
  by_cases hkl : k = l.length
  ·
   rw [hkl, List.drop_length]; exact .inl rfl
  ·
   rw [if_neg (by omega)]
   rcases h with h | ⟨b, off, rfl, h⟩
   ·
    subst h; simp at hk hkl; exact absurd hk hkl
   ·
    refine .inr ⟨b, off + k, by simp [Addr.add], fun i j x hx hj => ?_⟩
    rw [List.getElem?_drop] at hx
    have h1 := h (k + i) j x hx hj
    rw [show off + ((k + i) * Cel.k ByteArray + j) = off + k + (i * Cel.k ByteArray + j) from by show off + ((k + i) * 1 + j) = off + k + (i * 1 + j); omega] at h1
    exact h1
set_option maxRecDepth 100000 in
set_option maxHeartbeats 4000000 in
theorem paperOrder_any (S : Nat) (B : Int) (l : List Mark) (a : Option Addr) (cap : Nat) (w : World) (hs : Strm S B w) (hB : B ≤ 900000000) (hsa : SA w a l) (hl : l.length ≤ 400) (hsz : ∀ x ∈ l, x.1.size ≤ 1000) (hkn : (keysOf (fun x => x.1) l).length ≤ 19) :
  Calls Tryz.prog 6 #[.pointer (some ⟨S, 0, none⟩), .slice a l.length cap] w (SomeOrd S (B + 30) w) := by
 have HMP := Lib.hid (MarkedPapers_any l a cap w hsa (by omega))
 have HKS : Hid (∀ x ∈ keysOf (fun x => x.1) l, x.size ≤ 1000) := fun x hx => by obtain ⟨y, hy, rfl⟩ := (keysOf_mem _ _ _).1 hx; exact hsz y hy
 generalize keysOf (fun x => x.1) l = ks at *
 have hS := hs.lt
 clear hsa hsz
 go_enter Tryz.func6, Tryz.ntmps6
 go_wp2_with fail
 refine HMP.out.mono ?_
 rintro e w1 ⟨vk, rfl, hownk, hb1⟩
 obtain ⟨ka, kc, rfl, hsk, hfk, -⟩ := hownk.form
 have hs1 := hs.below hb1
 have hst1 : Stp S w w1 := Stp.of_below hb1
 have hz1 := hb1.size
 clear hs hb1 HMP hownk
 go_wp2_with fail
 refine (order_any S B ks.length _ hs1 (by omega) (by omega)).mono ?_
 rintro e w2 ⟨vo, ns, rfl, hnl, hnr, hown2, h2, s2⟩
 obtain ⟨na, nc, rfl, hsn, -, -⟩ := hown2.form
 have hsk2 : SA w2 ka ks := hsk.stp h2 (fun x hx => by
  rcases hfk with h | ⟨b, h, hb, _⟩
  ·
   rw [h] at hx; cases hx
  ·
   rw [h] at hx; cases hx; simp; omega)
 have hst2 := hst1.trans h2
 have hz2 := h2.size
 have Hnr := Lib.hid hnr
 have hnl2 : ns.length ≤ 19 := by omega
 clear hs1 hst1 hsk hfk h2 hown2 hnr hnl
 go_wp2_with fail
 go_loopg [16, 6] ns.length (fun gk iv ov wr => ∃ (k : Nat) (acc : List ByteArray), iv = .int .i64 k ∧ k ≤ ns.length ∧ Hid (gk = ns.length - k) ∧ Own w2.heap.size 9 wr ov acc ∧ Hid (acc.length = k) ∧ Hid (∀ x ∈ acc, x.size ≤ 1000) ∧ Below w2.heap.size w2 wr)
 case atStart => exact ⟨0, [], rfl, by omega, rfl, Own.nil _ _ _, rfl, (fun x hx => by cases hx), Below.refl _ _⟩
 case round =>
  obtain ⟨k, acc, rfl, hk, hgk, hown, hal, hsi, hb⟩ := hrel
  by_cases hlt : k < ns.length
  ·
   obtain ⟨gb, go, hga, e0⟩ := (hsn.below hb).int hlt
   obtain ⟨hm0, hm2⟩ := Hnr.out _ (List.getElem_mem hlt)
   obtain ⟨m, hm⟩ := Int.eq_ofNat_of_zero_le hm0
   rw [hm] at e0 hm2
   have hml : m < ks.length := by omega
   obtain ⟨pb, po, hpa, f0⟩ := (hsk2.below hb).str hml
   have hps := HKS.out _ (List.getElem_mem hml)
   have Hga := Lib.hid hga
   have Hpa := Lib.hid hpa
   rw [hga, hpa]
   clear hga hpa hm hm0 hm2
   generalize ks[m] = p at *
   have hm0 : (0 : Int) ≤ (m : Int) := by omega
   have hm2 : (m : Int) < (ks.length : Int) := by omega
   have hlz := hb.size
   have hall : acc.length ≤ 19 := by rw [hal.out]; omega
   go_wp2_with (at_builtin; refine wpList_append_lie (α := ByteArray) rfl _ _ 29 rfl 9 16 (.string ⟨#[]⟩) Tryz.underlying29 Tryz.infoString rfl _ acc rfl (hown.alloc _) p _ rfl (Box.new _ _ _) (by omega) (by omega) (by simp; omega) ?_; intro g9 cap9 w9 hown9 hg9 hat9)
   have hov := fun x hx => (hown.lt x hx).1
   have hk9 := ((Kp.refl _ wr).alloc (.cells #[.string p] 9)).grown hg9 (fun x hx => .inl hx)
   have hb9 := belowKp hb hk9 hov hb.size
   have hal2 : Hid ((acc ++ [p]).length = k + 1) := by show _ = _; rw [List.length_append, hal.out]; rfl
   have hsi2 : Hid (∀ x ∈ acc ++ [p], x.size ≤ 1000) := fun x hx => by
    rcases List.mem_append.1 hx with h | h
    ·
     exact hsi.out x h
    ·
     rw [List.mem_singleton.1 h]; exact hps
   clear hg9 hk9 hown hov hb e0 f0
   (try go_wp2_with fail)
   rw [← Hga.out, ← Hpa.out]
   go_roundg (ns.length - (k + 1))
   case measure => have := hgk.out; omega
   case rel => exact ⟨k + 1, acc ++ [p], by go_num, by omega, rfl, hown9, hal2.out, hsi2.out, hb9⟩
  ·
   obtain rfl : k = ns.length := by omega
   have hst3 := hst2.trans (Stp.of_below hb)
   have hs3 := s2.below hb
   have hlz := hb.size
   have hall : acc.length ≤ 19 := by rw [hal.out]; omega
   have HSI := Lib.hid hsi.out
   clear hst2 s2 hb hsn hsk2 hgk hal hsi Hnr
   go_wp2_with fail
   refine (flip_any S _ 6 _ hs3 (by omega) (by omega) (by omega)).mono ?_
   rintro e w4 ⟨r4, rfl, h4, s4⟩
   have hown4 := hown.stp h4 (by omega)
   have hst4 := hst3.trans h4
   have hz4 := h4.size
   clear hown hst3 hs3 h4
   cases r4
   ·
    have hlen : acc.length ≤ 20 := by omega
    have hsi4 := HSI.out
    go_wp2_with fail
    refine (flip_any S _ 8 _ s4 (by omega) (by omega) (by omega)).mono ?_
    rintro e w8 ⟨r8, rfl, h8, s8⟩
    have hown8 := hown4.stp h8 (by omega)
    have hst8 := hst4.trans h8
    have Hsiz8 := Lib.hid hsi4
    have hln8 := hlen
    obtain ⟨oa, oc, rfl, hoa, -, hoc⟩ := hown8.form
    clear hown4 hst4 s4 hsi4 hlen h8
    cases r8
    ·
     go_wp2_with fail
     go_ret
     exact ⟨oa, _, oc, rfl, hoa, by omega, hoc, Hsiz8.out, hst8, s8.mono (by omega)⟩
    ·
     by_cases h0 : ¬ 0 < acc.length
     ·
      have hd : decide ((0 : Int) < (acc.length : Int)) = false := decide_eq_false (by omega)
      have H0 := Lib.hid h0
      clear h0
      go_wp2_with fail
      go_ret
      exact ⟨oa, _, oc, rfl, hoa, by omega, hoc, Hsiz8.out, hst8, s8.mono (by omega)⟩
     ·
      have hd : decide ((0 : Int) < (acc.length : Int)) = true := decide_eq_true (by omega)
      obtain ⟨da, dc, hdr, hds, hdc⟩ := dropS2 oa acc oc 1 (by omega) hoc
      have Hdl := Lib.hid hdc
      clear hdc
      have hdr1 : ∀ W, (Instr.sliceAt 29 (.slice oa acc.length oc) (some (.int .i64 1)) none none).run Tryz.prog W = .ok (.slice da (acc.drop 1).length dc) W := hdr
      have HDS := Lib.hid (hds _ hoa)
      have hpos : 0 < acc.length := Classical.byContradiction h0
      clear hdr hds h0
      have hdl : (acc.drop 1).length ≤ 30 := by rw [List.length_drop]; omega
      have Hdm : Hid (∀ x ∈ acc.drop 1, x.size ≤ 1000) := fun x hx => Hsiz8.out x (List.mem_of_mem_drop hx)
      have Hdc : Hid ((acc.drop 1).length ≤ dc) := Hdl.out
      generalize acc.drop 1 = ol at *
      go_wp2_with fail
      go_ret
      exact ⟨da, ol, dc, rfl, HDS.out, by omega, Hdc.out, Hdm.out, hst8, s8.mono (by omega)⟩
   ·
    go_wp2_with fail
    refine (one_any S _ _ 2 2 9 _ _ (s4.alloc _) (by omega) (Box.new _ _ _) (by omega) rfl (by omega) (by omega) (by simp; decide)).mono ?_
    rintro e w5 ⟨x, hx, rfl, h5, s5⟩
    have hown5 := (hown4.alloc _).stp h5 (by omega)
    have hst5 := (hst4.alloc _).trans h5
    have hz5 := h5.size
    simp at hz5
    clear hown4 hst4 s4 h5
    go_wp2_with (at_builtin; refine wpList_append_lie (α := ByteArray) rfl _ _ 29 rfl 9 16 (.string ⟨#[]⟩) Tryz.underlying29 Tryz.infoString rfl _ acc rfl (hown5.alloc _) x _ rfl (Box.new _ _ _) (by omega) (by omega) (by simp; omega) ?_; intro g9 cap9 w9 hown9 hg9 hat9)
    have hov := fun j hj => (hown5.lt j hj).1
    have s9 : Strm S _ w9 := (s5.alloc _).grown hg9 (fun j hj => by have := hov j hj; omega)
    have hst9 : Stp S w w9 := (hst5.alloc _).grown hg9 (fun j hj => .inr (by have := hov j hj; omega))
    have hlen : (acc ++ [x]).length ≤ 20 := by rw [List.length_append]; show _ + 1 ≤ 20; omega
    have hsi9 : ∀ y ∈ acc ++ [x], y.size ≤ 1000 := fun y hy => by
     rcases List.mem_append.1 hy with h | h
     ·
      exact HSI.out y h
     ·
      rw [List.mem_singleton.1 h]; exact hx
    have hown10 : Own w2.heap.size 9 w9 (.slice (some ⟨g9, 0, none⟩) (acc ++ [x]).length cap9) (acc ++ [x]) := by rw [List.length_append]; exact hown9
    rw [show acc.length + 1 = (acc ++ [x]).length from by rw [List.length_append]; rfl]
    clear hg9 hown5 hst5 s5 hov hown9 HSI hx
    generalize acc ++ [x] = acc2 at *
    clear hat9
    generalize Value.slice (some ⟨g9, 0, none⟩) acc2.length cap9 = vz at *
    go_wp2_with fail
    refine (flip_any S _ 8 _ s9 (by omega) (by omega) (by omega)).mono ?_
    rintro e w8 ⟨r8, rfl, h8, s8⟩
    have hown8 := hown10.stp h8 (by omega)
    have hst8 := hst9.trans h8
    have Hsiz8 := Lib.hid hsi9
    have hln8 := hlen
    obtain ⟨oa, oc, rfl, hoa, -, hoc⟩ := hown8.form
    clear hown10 hst9 s9 hsi9 hlen h8
    cases r8
    ·
     go_wp2_with fail
     go_ret
     exact ⟨oa, _, oc, rfl, hoa, by omega, hoc, Hsiz8.out, hst8, s8.mono (by omega)⟩
    ·
     by_cases h0 : ¬ 0 < acc2.length
     ·
      have hd : decide ((0 : Int) < (acc2.length : Int)) = false := decide_eq_false (by omega)
      have H0 := Lib.hid h0
      clear h0
      go_wp2_with fail
      go_ret
      exact ⟨oa, _, oc, rfl, hoa, by omega, hoc, Hsiz8.out, hst8, s8.mono (by omega)⟩
     ·
      have hd : decide ((0 : Int) < (acc2.length : Int)) = true := decide_eq_true (by omega)
      obtain ⟨da, dc, hdr, hds, hdc⟩ := dropS2 oa acc2 oc 1 (by omega) hoc
      have Hdl := Lib.hid hdc
      clear hdc
      have hdr1 : ∀ W, (Instr.sliceAt 29 (.slice oa acc2.length oc) (some (.int .i64 1)) none none).run Tryz.prog W = .ok (.slice da (acc2.drop 1).length dc) W := hdr
      have HDS := Lib.hid (hds _ hoa)
      have hpos : 0 < acc2.length := Classical.byContradiction h0
      clear hdr hds h0
      have hdl : (acc2.drop 1).length ≤ 30 := by rw [List.length_drop]; omega
      have Hdm : Hid (∀ x ∈ acc2.drop 1, x.size ≤ 1000) := fun x hx => Hsiz8.out x (List.mem_of_mem_drop hx)
      have Hdc : Hid ((acc2.drop 1).length ≤ dc) := Hdl.out
      generalize acc2.drop 1 = ol at *
      go_wp2_with fail
      go_ret
      exact ⟨da, ol, dc, rfl, HDS.out, by omega, Hdc.out, Hdm.out, hst8, s8.mono (by omega)⟩
end Go.Proofs.YtcjcdbhobehlpaaGreatDoor
