/- EntriesOf: of the reference. -/
import Derived.Test.YtifflpilnpcmoaaGreatDoorStates
import Derived.Test.YtifflpilnpcmoaaGreatDoorEntryR
import Derived.Sort.OwnSortedInts
/-! EntriesOf: of the reference. -/
namespace Go.Proofs.YtifflpilnpcmoaaGreatDoor
open Go.RowKit
set_option linter.unusedVariables false
set_option linter.unusedSimpArgs false

theorem infoStrS : (Tryz.prog.info? 9).map (fun i => (i.zero, i.size, i.bytes)) = some (some (.string ⟨#[]⟩), 1, 16) := by kernel_rfl
set_option maxRecDepth 100000 in
set_option maxHeartbeats 4000000 in
theorem entriesR_any (o a f : Int) (s : List Skill) (a3 : Option Addr) (c3 : Nat) (l : List Arv) (la : Option Addr) (cap : Nat) (t : Int) (w : World) (h : CallIn a f s a3 l la w) (hkd : ∀ x ∈ l, kindB x.2.2.1 = true) :
    Calls Tryz.prog 19 #[callAgg o a f s a3 c3, .slice la l.length cap, .int .i64 t] w (GivesOwn 35 (((keysS (l.map (·.1))).map (fun id => entR (cntB o a f s) l id t)).filter isEnt) w) := by
  have HEn := Lib.hid (fun (id : ByteArray) (W : World) (h : CallIn a f s a3 l la W) => entryR_any o a f s a3 c3 l la cap id t W h.hs h.hsl h.hbd h.ab.1 h.ab.2.1 h.ab.2.2.1 h.ab.2.2.2 h.hl h.hll hkd)
  have Hll := Lib.hid h.hll
  have Hh := Lib.hid h
  generalize entR (cntB o a f s) l = er at *
  generalize hvl : ((keysS (l.map (·.1))).map (fun id => er id t)).filter isEnt = vl
  have HVl := Lib.hid hvl
  have hll9 := Hll.out
  clear hvl
  unfold callAgg at *
  have hC0 := Box.new w 28 #[.int .i64 o, .int .i64 a, .int .i64 f, .slice a3 s.length c3]
  have hb0 : Below w.heap.size w (w.alloc (.cells #[.int .i64 o, .int .i64 a, .int .i64 f, .slice a3 s.length c3] 28)) := by (repeat' (first | exact Below.refl _ _ | assumption | refine Below.setCell ?_ ?_ _ | refine below_drewN ?_ _ | refine Below.drew ?_ | refine Below.alloc ?_ ?_ _ | (with_reducible refine Below.trans ?_ (Below.mono hb ?_)) | (with_reducible refine Below.trans ?_ (Below.mono hb0 ?_)) | (with_reducible refine Below.trans ?_ (Below.mono hb1 ?_)) | (with_reducible refine Below.trans ?_ (Below.mono hb2 ?_)) | (with_reducible refine Below.trans ?_ (Below.mono hb3 ?_)) | (with_reducible refine Below.trans ?_ (Below.mono hb4 ?_)) | (with_reducible refine Below.trans ?_ (Below.mono hb5 ?_)) | (with_reducible refine Below.trans ?_ (Below.mono hb6 ?_)) | (with_reducible refine Below.trans ?_ (Below.mono hb7 ?_)) | (with_reducible refine Below.trans ?_ (Below.mono hb8 ?_)) | (with_reducible refine Below.trans ?_ (Below.mono hb9 ?_)) | (with_reducible refine Below.trans ?_ (Below.mono hb10 ?_)) | (with_reducible refine Below.trans ?_ (Below.mono hb11 ?_)) | (with_reducible refine Below.trans ?_ (Below.mono hb12 ?_)) | (with_reducible refine Below.trans ?_ (Below.mono hb13 ?_)) | (with_reducible refine Below.trans ?_ (Below.mono hb14 ?_)) | (with_reducible refine Below.trans ?_ (Below.mono hb15 ?_)) | omega | (simp; done) | (simp; omega)))
  clear h hkd
  go_enter Tryz.func19, Tryz.ntmps19
  go_wp2_with fail
  go_loopg [7, 16] l.length (fun gk v i wr => ∃ k : Nat, i = .int .i64 k ∧ k ≤ l.length ∧ Hid (gk = l.length - k) ∧ Own (w.heap.size + 1) 9 wr v ((l.take k).map (·.1)) ∧ Box wr w.heap.size 28 #[.int .i64 o, .int .i64 a, .int .i64 f, .slice a3 s.length c3] ∧ Below w.heap.size w wr ∧ w.heap.size + 1 ≤ wr.heap.size)
  case atStart => exact ⟨0, rfl, by omega, rfl, Own.nil _ _ _, hC0, hb0, by simp⟩
  case round =>
    clear hC0 hb0
    obtain ⟨k, rfl, hk, hgk, hown, hC, hb, hzr⟩ := hrel
    by_cases hlt : k < l.length
    · obtain ⟨b, off, hae, c0, c1, c2, c3', c4⟩ := (Hh.out.below hb).hl.arv hlt
      have Htk := Lib.hid (show (l.take (k + 1)).map (·.1) = (l.take k).map (·.1) ++ [l[k].1] by rw [List.take_succ_eq_append_getElem hlt, List.map_append]; rfl)
      have Hae := Lib.hid hae
      have HlO := Lib.hid hown.lt
      have hln : ((l.take k).map (·.1)).length ≤ 100000 := by have := Hll.out; rw [List.length_map, List.length_take]; omega
      rw [hae]
      clear hae
      generalize l[k] = x at *
      obtain ⟨x1, x2, x3, x4, x5⟩ := x
      simp only at c0 c1 c2 c3' c4 Htk
      generalize (l.take k).map (·.1) = acc at *
      go_wp2_with (at_builtin; refine wpList_append_one rfl _ _ 73 rfl (w.heap.size + 1) 9 16 (.string ⟨#[]⟩) Tryz.underlying73 infoStrS rfl _ acc rfl ((hown.alloc _).alloc _) x1 _ rfl (Box.newAt _ _ _ _ (by simp)) (by omega) (by omega) (by simp; omega) ?_; intro v' w3 hown3 hg3)
      have hC3 := ((hC.alloc (.cells #[.string x1, .int .i64 x2, .int .i64 x3, .string x4, .string x5] 63)).alloc (.cells #[.string x1] 9)).grown hg3 (fun e => by have := (HlO.out _ e.symm).1; omega)
      have hb3 : Below w.heap.size w w3 := Below.grown ((hb.alloc (by omega) (.cells #[.string x1, .int .i64 x2, .int .i64 x3, .string x4, .string x5] 63)).alloc (by simp; omega) (.cells #[.string x1] 9)) hg3 (by simp; omega) (fun j hj => by have := (HlO.out j hj).1; omega)
      have hz3 := hg3.size
      simp at hz3
      rw [← Hae.out]
      go_roundg (l.length - (k + 1))
      case measure => have := hgk.out; omega
      case rel => exact ⟨k + 1, by go_num, by omega, rfl, by rw [Htk.out]; exact hown3, hC3, hb3, by omega⟩
    · obtain rfl : k = l.length := by omega
      rw [List.take_length] at hown
      obtain ⟨ao, co, rfl, hsa, -, -⟩ := hown.form
      have hll2 : (l.map (·.1)).length ≤ 1000000000 := by have := Hll.out; rw [List.length_map]; omega
      rw [List.length_map] at *
      clear hown
      go_wp2_with fail
      have HS := sorted_any (l.map (·.1)) ao co wr hsa (by rw [List.length_map]; omega)
      rw [List.length_map] at HS
      refine HS.mono ?_
      rintro e w4 ⟨v4, rfl, hown4, hb4⟩
      have hC4 := hC.below hb4
      have hbw4 := below_next hb hb4
      obtain ⟨ak, ck, rfl, hsk, -, -⟩ := hown4.form
      have hkl : (keysS (l.map (·.1))).length ≤ 1000000 := by
        have := keysS_length (l.map (·.1))
        have := Hll.out
        rw [List.length_map] at *
        omega
      have Htk := Lib.hid (fun k (hk : k < (keysS (l.map (·.1))).length) => List.take_succ_eq_append_getElem hk)
      have Hsk := Lib.hid hsk
      have HC4 := Lib.hid hC4
      have hz4 := hC4.lt
      clear hown4 hsk hb4 hC hC4 hsa HS hb
      generalize keysS (l.map (·.1)) = ks at *
      go_wp2_with fail
      go_loopg [10, 29] ks.length (fun gk v i wr => ∃ (k : Nat) (acc : List Ent5), i = .int .i64 k ∧ k ≤ ks.length ∧ Hid (gk = ks.length - k) ∧ Hid (acc = ((ks.take k).map (fun id => er id t)).filter isEnt) ∧ Own w4.heap.size 35 wr v acc ∧ Below w4.heap.size w4 wr)
      case atStart => exact ⟨0, [], rfl, by omega, rfl, rfl, Own.nil _ _ _, Below.refl _ _⟩
      case round =>
        obtain ⟨k, acc, rfl, hk, hgk, hacc, hown, hbr⟩ := hrel
        have hzr := hbr.size
        by_cases hlt : k < ks.length
        · obtain ⟨kb, koff, hak, ck0⟩ := (Hsk.out.below hbr).str hlt
          have Hak := Lib.hid hak
          have HT := Lib.hid (Htk.out k hlt)
          have hal : acc.length ≤ 1000000 := by
            rw [hacc.out]
            refine Nat.le_trans (List.length_filter_le _ _) ?_
            rw [List.length_map, List.length_take]
            omega
          have hCr := HC4.out.below hbr
          have HI := Lib.hid (Hh.out.below (below_next hbw4 hbr))
          rw [hak]
          clear hak
          generalize ks[k] = id at *
          have HEx := Lib.hid (HEn.out id wr HI.out)
          have HlO := Lib.hid hown.lt
          have Hnew : Hid (((ks.take (k + 1)).map (fun id => er id t)).filter isEnt = acc ++ if isEnt (er id t) = true then [er id t] else []) := by
            show _ = _
            rw [HT.out, List.map_append, List.filter_append, ← hacc.out]
            congr 1
            rw [List.map_cons, List.map_nil, List.filter_cons]
            rfl
          generalize er id t = en at *
          obtain ⟨n1, n2, n3, n4, n5⟩ := en
          have hCr_l := hCr.lt; have hCr_0 := hCr.cell 0; have hCr_1 := hCr.cell 1; have hCr_2 := hCr.cell 2; have hCr_3 := hCr.cell 3; simp at hCr_0 hCr_1 hCr_2 hCr_3
          go_wp2_with fail
          refine HEx.out.mono ?_
          rintro e w5 ⟨rfl, hb5⟩
          have hown5 := hown.below hb5
          have hb6 := below_next hbr hb5
          clear hown hbr hb5 ck0 hCr hCr_l hCr_0 hCr_1 hCr_2 hCr_3
          rw [show entAgg (n1, n2, n3, n4, n5) = .agg #[.string n1, .int .i64 n2, .string n3, .string n4, .int .i64 n5] from rfl]
          have hz6 := hb6.size
          by_cases hn : n2 = 1
          · have Hn : Hid (((ks.take (k + 1)).map (fun id => er id t)).filter isEnt = acc) := by
              show _ = _
              rw [Hnew.out, if_neg (by unfold isEnt; simp [hn]), List.append_nil]
            subst hn
            go_wp2_with fail
            rw [← Hak.out]
            go_roundg (ks.length - (k + 1))
            case measure => have := hgk.out; omega
            case rel => exact ⟨k + 1, acc, by go_num, by omega, rfl, by show _ = _; rw [Hn.out], hown5.alloc _, hb6.alloc (by omega) _⟩
          · have Hn : Hid (((ks.take (k + 1)).map (fun id => er id t)).filter isEnt = acc ++ [(n1, n2, n3, n4, n5)]) := by
              show _ = _
              rw [Hnew.out, if_pos (by unfold isEnt; simp [hn])]
            have hn' : (n2 != 1) = true := by simpa using hn
            have hn'' : (n2 == 1) = false := by simpa using hn
            clear hn
            go_upto_region 13 with (fail)
            go_wp2_with (at_builtin; refine wpList_append_one rfl _ _ 39 rfl w4.heap.size 35 64 (.agg #[.string ⟨#[]⟩, .int .i64 0, .string ⟨#[]⟩, .string ⟨#[]⟩, .int .i64 0]) Tryz.underlying39 infoEnt rfl _ acc rfl ((hown5.alloc _).alloc _) (n1, n2, n3, n4, n5) _ rfl (Box.newAt _ _ _ _ (by simp)) (by omega) (by omega) (by simp; omega) ?_; intro v' w7 hown7 hg7)
            have hb7 : Below w4.heap.size w4 w7 := Below.grown ((hb6.alloc (by omega) _).alloc (by simp; omega) _) hg7 (by simp; omega) (fun j hj => (HlO.out j hj).1)
            rw [← Hak.out]
            go_roundg (ks.length - (k + 1))
            case measure => have := hgk.out; omega
            case rel => exact ⟨k + 1, _, by go_num, by omega, rfl, by show _ = _; rw [Hn.out], hown7, hb7⟩
        · obtain rfl : k = ks.length := by omega
          rw [List.take_length] at hacc
          have hbF := hbw4.trans (hbr.mono (by have := hbw4.size; omega))
          go_wp2_with fail
          go_ret
          exact ⟨_, rfl, by rw [← HVl.out, ← hacc.out]; exact hown.mono (by have := hbw4.size; omega), hbF⟩
end Go.Proofs.YtifflpilnpcmoaaGreatDoor

/-! MomentsOf: of the reference. -/
namespace Go.Proofs.YtifflpilnpcmoaaGreatDoor
open Go.RowKit Go.Sort
set_option linter.unusedVariables false
set_option linter.unusedSimpArgs false

theorem ints_flatZ (l : List Int) : l.map (Value.int .i64) = l.flatMap Cel.cells := by
  induction l with
  | nil => rfl
  | cons x r ih => rw [List.map_cons, List.flatMap_cons, ih]; rfl
theorem sortZ_length (l : List Int) : (sortZ l).length = l.length := by simp [sortZ]
theorem compact_dedTo (l : List Int) : ∀ m, m ≤ l.length → Lib.compactUpTo l.toArray m = dedTo l m
  | 0, _ => rfl
  | m + 1, hm => by
    rw [Lib.compactUpTo_succ, compact_dedTo l m (by omega)]
    show _ = dedTo l m ++ (if keepD l m = true then l[m]?.toList else [])
    have e1 : l.toArray[m]! = l[m] := by simp [show m < l.length by omega]
    have hk : Lib.keeps l.toArray m = keepD l m := by
      unfold Lib.keeps keepD
      by_cases h0 : m = 0
      · simp [h0]
      · have e2 : l.toArray[m - 1]! = l[m - 1] := by simp [show m - 1 < l.length by omega]
        rw [e1, e2, List.getElem?_eq_getElem (by omega : m < l.length), List.getElem?_eq_getElem (by omega : m - 1 < l.length)]
        simp
    rw [hk, e1, List.getElem?_eq_getElem (by omega : m < l.length)]
    rfl
theorem compact_ded (l : List Int) : Lib.compact l = dedL l := compact_dedTo l l.length (Nat.le_refl _)
theorem SA.intZ {w : World} {a : Option Addr} {l : List Int} (h : SA w a l) {i : Nat} (hi : i < l.length) :
    ∃ b off, a = some ⟨b, off, none⟩ ∧ w.cell? ⟨b, off + i, none⟩ = some (.int .i64 l[i]) := by
  obtain ⟨b, off, ha, hc⟩ := h.at hi
  refine ⟨b, off, ha, ?_⟩
  have := hc 0 (by decide)
  rw [show off + (i * Cel.k Int + 0) = off + i from by show off + (i * 1 + 0) = _; omega] at this
  exact this
theorem sortZ_any (base : Nat) (l : List Int) (v : Value) (w : World) (h : Own base 3 w v l) (hlen : l.length ≤ 1000000000) :
    Calls Tryz.prog 50 #[v] w (fun e w' => e = .returned (.tuple #[]) ∧ Own base 3 w' v (sortZ l) ∧ w.grownBy w' v.ownBlock) := by
  by_cases hl : l = []
  · subst hl
    obtain ⟨a, cap, rfl, _⟩ := h.form
    refine (Tryz.slices_Sort_int_none a cap w).mono ?_
    rintro e w' ⟨rfl, rfl⟩
    refine ⟨rfl, ?_, ⟨rfl, rfl, rfl, Nat.le_refl _, fun _ _ _ => rfl⟩⟩
    rw [show sortZ [] = [] from List.length_eq_zero_iff.1 (sortZ_length [])]
    exact h
  · obtain ⟨h1, h2⟩ := h
    rcases h2 with ⟨_, h2⟩ | ⟨g, cap, cur, rfl, r1, r2, r3, r4, r5, r6⟩
    · exact absurd (List.length_eq_zero_iff.1 h2) hl
    · have hH : Holds (Value.int .i64) w g 0 l.toArray := holds_of_blockI r2 (by rw [ints_flatZ, ← r6, show Cel.k Int = 1 from rfl, Nat.mul_one])
      refine (Tryz.slices_Sort_int g 0 cap l w hH (Array.getElem?_eq_some_iff.1 r2).1 (by omega)).mono ?_
      rintro e w' ⟨rfl, n, os, rfl⟩
      refine ⟨rfl, ?_, grownBy_sortedI _⟩
      have := ownsRow_sortedI (w := w) (base := base) (n := n) (os := os) (ss := l) (ts := sortZ l) (sortZ_length l) r1 r2 r3 r4 r5
      rw [ints_flatZ] at this
      unfold Own
      rw [sortZ_length]
      exact this
theorem compactZ_any (base : Nat) (l : List Int) (v : Value) (w : World) (h : Own base 3 w v l) (hlen : l.length ≤ 1000000000) :
    Calls Tryz.prog 51 #[v] w (fun e w' => ∃ v', e = .returned v' ∧ Own base 3 w' v' (dedL l) ∧ w.grownBy w' v.ownBlock) := by
  by_cases hl : l = []
  · subst hl
    obtain ⟨a, cap, rfl, _⟩ := h.form
    refine (Tryz.slices_Compact_int_empty a cap w).mono ?_
    rintro e w' ⟨rfl, rfl⟩
    exact ⟨_, rfl, h, ⟨rfl, rfl, rfl, Nat.le_refl _, fun _ _ _ => rfl⟩⟩
  · obtain ⟨h1, h2⟩ := h
    rcases h2 with ⟨_, h2⟩ | ⟨g, cap, cur, rfl, r1, r2, r3, r4, r5, r6⟩
    · exact absurd (List.length_eq_zero_iff.1 h2) hl
    · have hH : Holds (Value.int .i64) w g 0 l.toArray := holds_of_blockI r2 (by rw [ints_flatZ, ← r6, show Cel.k Int = 1 from rfl, Nat.mul_one])
      refine (Tryz.slices_Compact_int g 0 cap l w hH (by omega) r3).mono ?_
      rintro e w' ⟨rfl, q, rfl⟩
      have hle : (Lib.compact l).length ≤ l.length := by
        rw [compact_ded]
        exact dedTo_len l l.length
      rw [← compact_ded]
      refine ⟨_, rfl, ?_, ?_⟩
      · have h3 := ownsRow_sortedI (w := w) (base := base) (n := q) (os := #[]) (ss := l) (ts := Lib.compact l ++ List.replicate (l.length - (Lib.compact l).length) 0) (by rw [List.length_append, List.length_replicate]; omega) r1 r2 r3 r4 r5
        rw [grow_empty] at h3
        obtain ⟨_, h4⟩ := h3
        rcases h4 with ⟨h4, _⟩ | ⟨g', cap', cur', he, s1, s2, s3, s4, s5, s6⟩
        · cases h4
        · cases he
          unfold Own
          rw [← ints_flatZ]
          refine ⟨by rw [List.length_map]; exact (Nat.mul_one _).symm, .inr ⟨g, cap, cur', rfl, r1, s2, by omega, r4, s5, ?_⟩⟩
          rw [Nat.mul_one, List.map_append] at s6
          rw [show Cel.k Int = 1 from rfl, Nat.mul_one]
          have s7 := congrArg (List.take (Lib.compact l).length) s6
          rw [List.take_take, Nat.min_eq_left hle, List.take_append_of_le_length (by rw [List.length_map]; exact Nat.le_refl _)] at s7
          exact s7.trans (List.take_of_length_le (by rw [List.length_map]; exact Nat.le_refl _))
      · have := grownBy_sortedI (w := w) (g := g) (n := q) (os := #[]) (Lib.compact l ++ List.replicate (l.length - (Lib.compact l).length) 0).toArray
        rw [grow_empty] at this
        exact this
end Go.Proofs.YtifflpilnpcmoaaGreatDoor
namespace Go.Proofs.YtifflpilnpcmoaaGreatDoor
open Go.RowKit
set_option maxRecDepth 100000 in
set_option maxHeartbeats 4000000 in
theorem momentsR_any (o a f : Int) (s : List Skill) (a3 : Option Addr) (c3 : Nat) (l : List Arv) (la : Option Addr) (cap : Nat) (id : ByteArray) (w : World) (h : CallIn a f s a3 l la w) (hkd : ∀ x ∈ l, kindB x.2.2.1 = true) :
    Calls Tryz.prog 21 #[callAgg o a f s a3 c3, .slice la l.length cap, .string id] w (GivesOwn 3 (momR (cntB o a f s) l id) w) := by
  have HEn := Lib.hid (fun (t : Int) (W : World) (h : CallIn a f s a3 l la W) => entryR_any o a f s a3 c3 l la cap id t W h.hs h.hsl h.hbd h.ab.1 h.ab.2.1 h.ab.2.2.1 h.ab.2.2.2 h.hl h.hll hkd)
  have HVl := Lib.hid (show momR (cntB o a f s) l id = (dedL (sortZ ((l.filter (fun a => decide (a.1 = id))).map (·.2.1)))).filter (chg (entR (cntB o a f s) l id)) from rfl)
  generalize momR (cntB o a f s) l id = vl at *
  have hll9 := h.hll
  have Hh := Lib.hid h
  have Hbt : Hid (∀ x ∈ dedL (sortZ ((l.filter (fun a => decide (a.1 = id))).map (·.2.1))), -10000000 ≤ x ∧ x ≤ 10000000) := fun x hx => by
    rw [dedL_mem, (sortZ_ok _).2, List.mem_map] at hx
    obtain ⟨y, hy, rfl⟩ := hx
    have := Hh.out.hok y (List.mem_filter.1 hy).1
    exact ⟨this.2.2.2.1, this.2.2.2.2.1⟩
  generalize entR (cntB o a f s) l id = er at *
  unfold callAgg at *
  have hC0 := Box.new w 28 #[.int .i64 o, .int .i64 a, .int .i64 f, .slice a3 s.length c3]
  have hb0 : Below w.heap.size w (w.alloc (.cells #[.int .i64 o, .int .i64 a, .int .i64 f, .slice a3 s.length c3] 28)) := by (repeat' (first | exact Below.refl _ _ | assumption | refine Below.setCell ?_ ?_ _ | refine below_drewN ?_ _ | refine Below.drew ?_ | refine Below.alloc ?_ ?_ _ | (with_reducible refine Below.trans ?_ (Below.mono hb ?_)) | (with_reducible refine Below.trans ?_ (Below.mono hb0 ?_)) | (with_reducible refine Below.trans ?_ (Below.mono hb1 ?_)) | (with_reducible refine Below.trans ?_ (Below.mono hb2 ?_)) | (with_reducible refine Below.trans ?_ (Below.mono hb3 ?_)) | (with_reducible refine Below.trans ?_ (Below.mono hb4 ?_)) | (with_reducible refine Below.trans ?_ (Below.mono hb5 ?_)) | (with_reducible refine Below.trans ?_ (Below.mono hb6 ?_)) | (with_reducible refine Below.trans ?_ (Below.mono hb7 ?_)) | (with_reducible refine Below.trans ?_ (Below.mono hb8 ?_)) | (with_reducible refine Below.trans ?_ (Below.mono hb9 ?_)) | (with_reducible refine Below.trans ?_ (Below.mono hb10 ?_)) | (with_reducible refine Below.trans ?_ (Below.mono hb11 ?_)) | (with_reducible refine Below.trans ?_ (Below.mono hb12 ?_)) | (with_reducible refine Below.trans ?_ (Below.mono hb13 ?_)) | (with_reducible refine Below.trans ?_ (Below.mono hb14 ?_)) | (with_reducible refine Below.trans ?_ (Below.mono hb15 ?_)) | omega | (simp; done) | (simp; omega)))
  clear h hkd
  go_enter Tryz.func21, Tryz.ntmps21
  go_wp2_with fail
  go_loopg [7, 15] l.length (fun gk v i wr => ∃ (k : Nat) (acc : List Int), i = .int .i64 k ∧ k ≤ l.length ∧ Hid (gk = l.length - k) ∧ Hid (acc = ((l.take k).filter (fun a => decide (a.1 = id))).map (·.2.1)) ∧ Own (w.heap.size + 1) 3 wr v acc ∧ Box wr w.heap.size 28 #[.int .i64 o, .int .i64 a, .int .i64 f, .slice a3 s.length c3] ∧ Below w.heap.size w wr ∧ w.heap.size + 1 ≤ wr.heap.size)
  case atStart => exact ⟨0, [], rfl, by omega, rfl, rfl, Own.nil _ _ _, hC0, hb0, by simp⟩
  case round =>
    clear hC0 hb0
    obtain ⟨k, acc, rfl, hk, hgk, hacc, hown, hC, hb, hzr⟩ := hrel
    have hln : acc.length ≤ 100000 := by
      rw [hacc.out, List.length_map]
      refine Nat.le_trans (List.length_filter_le _ _) ?_
      rw [List.length_take]; omega
    by_cases hlt : k < l.length
    · obtain ⟨b, off, hae, c0, c1, c2, c3', c4⟩ := (Hh.out.below hb).hl.arv hlt
      have Htk : Hid (((l.take (k + 1)).filter (fun a => decide (a.1 = id))).map (·.2.1) = acc ++ if l[k].1 = id then [l[k].2.1] else []) := by
        show _ = _
        rw [List.take_succ_eq_append_getElem hlt, List.filter_append, List.map_append, ← hacc.out, List.filter_cons, List.filter_nil]
        by_cases e : l[k].1 = id <;> simp [e]
      have Hae := Lib.hid hae
      have HlO := Lib.hid hown.lt
      rw [hae]
      clear hae
      generalize l[k] = x at *
      obtain ⟨x1, x2, x3, x4, x5⟩ := x
      simp only at c0 c1 c2 c3' c4 Htk
      by_cases hx : x1 = id
      · rw [if_pos hx] at Htk
        have hxl : (x1.toList == id.toList) = true := by rw [hx]; simp
        have hxe : x1.toList = id.toList := by rw [hx]
        clear hx
        go_upto_region 6 with (fail)
        go_wp2_with (at_builtin; refine wpList_append_one rfl _ _ 22 rfl (w.heap.size + 1) 3 8 (.int .i64 0) Tryz.underlying22 infoIntS rfl _ acc rfl ((hown.alloc _).alloc _) x2 _ rfl (Box.newAt _ _ _ _ (by simp)) (by omega) (by omega) (by simp; omega) ?_; intro v' w3 hown3 hg3)
        have hC3 := ((hC.alloc (.cells #[.string x1, .int .i64 x2, .int .i64 x3, .string x4, .string x5] 63)).alloc (.cells #[.int .i64 x2] 3)).grown hg3 (fun e => by have := (HlO.out _ e.symm).1; omega)
        have hb3 : Below w.heap.size w w3 := Below.grown ((hb.alloc (by omega) (.cells #[.string x1, .int .i64 x2, .int .i64 x3, .string x4, .string x5] 63)).alloc (by simp; omega) (.cells #[.int .i64 x2] 3)) hg3 (by simp; omega) (fun j hj => by have := (HlO.out j hj).1; omega)
        have hz3 := hg3.size
        simp at hz3
        rw [← Hae.out]
        go_roundg (l.length - (k + 1))
        case measure => have := hgk.out; omega
        case rel => exact ⟨k + 1, _, by go_num, by omega, rfl, Htk.out.symm, hown3, hC3, hb3, by omega⟩
      · rw [if_neg hx, List.append_nil] at Htk
        have hxl : (x1.toList == id.toList) = false := by rw [toList_beq]; exact decide_eq_false hx
        have hxe : ¬ x1.toList = id.toList := fun e => hx (toList_inj.1 e)
        clear hx
        go_wp2_with fail
        rw [← Hae.out]
        go_roundg (l.length - (k + 1))
        case measure => have := hgk.out; omega
        case rel => exact ⟨k + 1, acc, by go_num, by omega, rfl, Htk.out.symm, hown.alloc _, hC.alloc _, hb.alloc (by omega) _, by simp; omega⟩
    · obtain rfl : k = l.length := by omega
      rw [List.take_length] at hacc
      rw [← hacc.out] at HVl Hbt
      have hl1 : (sortZ acc).length ≤ 1000000000 := by rw [sortZ_length]; omega
      have HlO := Lib.hid hown.lt
      go_wp2_with fail
      refine (sortZ_any _ acc _ _ hown (by omega)).mono ?_
      rintro e w4 ⟨rfl, hown4, hg4⟩
      have hC4 := hC.grown hg4 (fun e => by have := (HlO.out _ e.symm).1; omega)
      have hb4 : Below w.heap.size w w4 := Below.grown hb hg4 (by omega) (fun j hj => by have := (HlO.out j hj).1; omega)
      have hz4 := hg4.size
      go_wp2_with fail
      refine (compactZ_any _ (sortZ acc) _ _ hown4 hl1).mono ?_
      rintro e w5 ⟨v5, rfl, hown5, hg5⟩
      have hC5 := hC4.grown hg5 (fun e => by have := (HlO.out _ e.symm).1; omega)
      have hb5 : Below w.heap.size w w5 := Below.grown hb4 hg5 (by omega) (fun j hj => by have := (HlO.out j hj).1; omega)
      have hcl : (dedL (sortZ acc)).length ≤ 1000000 := by
        have := dedTo_len (sortZ acc) (sortZ acc).length
        rw [sortZ_length] at this
        show (dedTo (sortZ acc) (sortZ acc).length).length ≤ _
        rw [sortZ_length]
        omega
      obtain ⟨ak, ck, rfl, hsk, -, -⟩ := hown5.form
      have Htk := Lib.hid (fun k (hk : k < (dedL (sortZ acc)).length) => List.take_succ_eq_append_getElem hk)
      have Hsk := Lib.hid hsk
      have HC5 := Lib.hid hC5
      have hz5 := hC5.lt
      clear hown hown4 hown5 hC hC4 hC5 hsk hg4 hg5 hb hb4 hacc
      generalize dedL (sortZ acc) = ks at *
      go_wp2_with fail
      go_loopg [10, 34] ks.length (fun gk v i wr => ∃ (k : Nat) (acc : List Int), i = .int .i64 k ∧ k ≤ ks.length ∧ Hid (gk = ks.length - k) ∧ Hid (acc = (ks.take k).filter (chg er)) ∧ Own w5.heap.size 3 wr v acc ∧ Below w5.heap.size w5 wr)
      case atStart => exact ⟨0, [], rfl, by omega, rfl, rfl, Own.nil _ _ _, Below.refl _ _⟩
      case round =>
        obtain ⟨k, ac2, rfl, hk, hgk, hacc, hown, hbr⟩ := hrel
        have hzr := hbr.size
        by_cases hlt : k < ks.length
        · obtain ⟨kb, koff, hak, ck0⟩ := (Hsk.out.below hbr).intZ hlt
          have Hak := Lib.hid hak
          have Hbx := Lib.hid (Hbt.out _ (List.getElem_mem hlt))
          have Hnew : Hid ((ks.take (k + 1)).filter (chg er) = ac2 ++ if chg er ks[k] = true then [ks[k]] else []) := by
            show _ = _
            rw [Htk.out k hlt, List.filter_append, ← hacc.out, List.filter_cons, List.filter_nil]
          have hal : ac2.length ≤ 1000000 := by
            rw [hacc.out]
            refine Nat.le_trans (List.length_filter_le _ _) ?_
            rw [List.length_take]
            omega
          have hCr := HC5.out.below hbr
          have HlO := Lib.hid hown.lt
          rw [hak]
          clear hak
          generalize ks[k] = x2 at *
          have HCh : Hid (chg er x2 = !decide (er x2 = er (x2 - 1))) := rfl
          rw [HCh.out] at Hnew
          clear HCh
          have HE1 := Lib.hid (fun W h => HEn.out x2 W h)
          have HE2 := Lib.hid (fun W h => HEn.out (x2 - 1) W h)
          have hw1 : IntKind.i64.wrap (x2 - 1) = x2 - 1 := IntWalk.i64_in _ (by have := Hbx.out; omega)
          have hne := run_neEnt (er x2) (er (x2 - 1))
          have hgd := fun p q => guard_Ent p q (er x2) (er (x2 - 1))
          obtain ⟨e1, he1⟩ : ∃ e1, er x2 = e1 := ⟨_, rfl⟩
          obtain ⟨e2, he2⟩ : ∃ e2, er (x2 - 1) = e2 := ⟨_, rfl⟩
          rw [he1] at HE1 Hnew hne hgd
          rw [he2] at HE2 Hnew hne hgd
          clear he1 he2
          generalize decide (e1 = e2) = dq at *
          generalize entAgg e1 = va at *
          generalize entAgg e2 = vb at *
          have HI := Lib.hid (fun W (hW : Below wr.heap.size wr W) => Hh.out.below (below_next (below_next hb5 hbr) hW))
          have hCr_l := hCr.lt; have hCr_0 := hCr.cell 0; have hCr_1 := hCr.cell 1; have hCr_2 := hCr.cell 2; have hCr_3 := hCr.cell 3; simp at hCr_0 hCr_1 hCr_2 hCr_3
          go_upto_region 13 with (fail)
          refine wp_region_held_drew (S := (fun wx => wx.cell? ⟨w.heap.size, 0, none⟩ = some (.int .i64 o) ∧ wx.cell? ⟨w.heap.size, 1, none⟩ = some (.int .i64 a) ∧ wx.cell? ⟨w.heap.size, 2, none⟩ = some (.int .i64 f) ∧ wx.cell? ⟨w.heap.size, 3, none⟩ = some (.slice a3 s.length c3) ∧ Below wr.heap.size wr wx)) (by kernel_rfl) ?hS (fun hHeld => ?_)
          case hS => exact ⟨hCr_0, hCr_1, hCr_2, hCr_3, (Below.refl _ _).drew⟩
          refine rtake (i := 0) (d := (some 38)) (v := ?_) rfl (by kernel_rfl) (by kernel_rfl) (by kernel_rfl) (by kernel_rfl) (fun _ _ _ h => h) (by kernel_rfl) (by assumption) ?_ ?_
          rotate_left 1
          · (intro wI hSI; (try dsimp only at hSI); go_simp; (try with_reducible rfl))
          simp only [Act.put, List.setIfInBounds_toArray, List.set_cons_zero, List.set_cons_succ]
          refine rtake (i := 1) (d := (some 39)) (v := ?_) rfl (by kernel_rfl) (by kernel_rfl) (by kernel_rfl) (by kernel_rfl) (fun _ _ _ h => h) (by kernel_rfl) (by assumption) ?_ ?_
          rotate_left 1
          · (intro wI hSI; (try dsimp only at hSI); go_simp; (try with_reducible rfl))
          simp only [Act.put, List.setIfInBounds_toArray, List.set_cons_zero, List.set_cons_succ]
          refine rtake (i := 2) (d := (some 40)) (v := ?_) rfl (by kernel_rfl) (by kernel_rfl) (by kernel_rfl) (by kernel_rfl) (fun _ _ _ h => h) (by kernel_rfl) (by assumption) ?_ ?_
          rotate_left 1
          · (intro wI hSI; (try dsimp only at hSI); go_simp; (try with_reducible rfl))
          simp only [Act.put, List.setIfInBounds_toArray, List.set_cons_zero, List.set_cons_succ]
          refine rtake (i := 3) (d := (some 41)) (v := ?_) rfl (by kernel_rfl) (by kernel_rfl) (by kernel_rfl) (by kernel_rfl) (fun _ _ _ h => h) (by kernel_rfl) (by assumption) ?_ ?_
          rotate_left 1
          · (intro wI hSI; (try dsimp only at hSI); go_simp; (try with_reducible rfl))
          simp only [Act.put, List.setIfInBounds_toArray, List.set_cons_zero, List.set_cons_succ]
          refine rtake (i := 5) (d := (some 43)) (v := ?_) rfl (by kernel_rfl) (by kernel_rfl) (by kernel_rfl) (by kernel_rfl) (fun _ _ _ h => h) (by kernel_rfl) (by assumption) ?_ ?_
          rotate_left 1
          · (intro wI hSI; (try dsimp only at hSI); go_simp; (try with_reducible rfl))
          simp only [Act.put, List.setIfInBounds_toArray, List.set_cons_zero, List.set_cons_succ]
          refine rtake (i := 6) (d := (some 44)) (v := ?_) rfl (by kernel_rfl) (by kernel_rfl) (by kernel_rfl) (by kernel_rfl) (fun _ _ _ h => h) (by kernel_rfl) (by assumption) ?_ ?_
          rotate_left 1
          · (intro wI hSI; (try dsimp only at hSI); go_simp; (try with_reducible rfl))
          simp only [Act.put, List.setIfInBounds_toArray, List.set_cons_zero, List.set_cons_succ]
          refine rtake (i := 7) (d := (some 45)) (v := ?_) rfl (by kernel_rfl) (by kernel_rfl) (by kernel_rfl) (by kernel_rfl) (fun _ _ _ h => h) (by kernel_rfl) (by assumption) ?_ ?_
          rotate_left 1
          · (intro wI hSI; (try dsimp only at hSI); go_simp; (try with_reducible rfl))
          simp only [Act.put, List.setIfInBounds_toArray, List.set_cons_zero, List.set_cons_succ]
          refine rtake (i := 8) (d := (some 46)) (v := ?_) rfl (by kernel_rfl) (by kernel_rfl) (by kernel_rfl) (by kernel_rfl) (fun _ _ _ h => h) (by kernel_rfl) (by assumption) ?_ ?_
          rotate_left 1
          · (intro wI hSI; (try dsimp only at hSI); go_simp; (try with_reducible rfl))
          simp only [Act.put, List.setIfInBounds_toArray, List.set_cons_zero, List.set_cons_succ]
          refine rtake (i := 9) (d := (some 47)) (v := ?_) rfl (by kernel_rfl) (by kernel_rfl) (by kernel_rfl) (by kernel_rfl) (fun _ _ _ h => h) (by kernel_rfl) (by assumption) ?_ ?_
          rotate_left 1
          · (intro wI hSI; (try dsimp only at hSI); go_simp; (try with_reducible rfl))
          simp only [Act.put, List.setIfInBounds_toArray, List.set_cons_zero, List.set_cons_succ]
          refine rcall (i := 4) (d := (some 42)) (by kernel_rfl) rfl (by kernel_rfl) (fun K hK => ?_)
          go_simp
          go_at_call 17; refine (HE1.out _ (HI.out _ hHeld.2.2.2.2)).mono ?_; rintro e w8 ⟨rfl, hb8⟩
          refine hK.out _ _ ?hS (fun hHeld => ?_)
          case hS => exact ⟨cell_later hb8 hHeld.1, cell_later hb8 hHeld.2.1, cell_later hb8 hHeld.2.2.1, cell_later hb8 hHeld.2.2.2.1, hHeld.2.2.2.2.trans (hb8.mono hHeld.2.2.2.2.size)⟩
          clear hK K
          simp only [Act.put, List.setIfInBounds_toArray, List.set_cons_zero, List.set_cons_succ]
          refine rcall (i := 10) (d := (some 48)) (by kernel_rfl) rfl (by kernel_rfl) (fun K hK => ?_)
          go_simp
          go_at_call 17; refine (HE2.out _ (HI.out _ hHeld.2.2.2.2)).mono ?_; rintro e w9 ⟨rfl, hb9⟩
          refine hK.out _ _ ?hS (fun hHeld => ?_)
          case hS => exact ⟨cell_later hb9 hHeld.1, cell_later hb9 hHeld.2.1, cell_later hb9 hHeld.2.2.1, cell_later hb9 hHeld.2.2.2.1, hHeld.2.2.2.2.trans (hb9.mono hHeld.2.2.2.2.size)⟩
          clear hK K
          simp only [Act.put, List.setIfInBounds_toArray, List.set_cons_zero, List.set_cons_succ]
          refine rtake (i := 11) (d := (some 49)) (v := ?_) rfl (by kernel_rfl) (by kernel_rfl) (by kernel_rfl) (by kernel_rfl) (fun _ _ _ h => h) (by kernel_rfl) (by assumption) ?_ ?_
          rotate_left 1
          · (intro wI hSI; (try dsimp only at hSI); go_simp; (try with_reducible rfl))
          simp only [Act.put, List.setIfInBounds_toArray, List.set_cons_zero, List.set_cons_succ]
          refine wpAnyH_done (by kernel_rfl) ?_ _
          have hbZ := hHeld.2.2.2.2
          have hown9 := hown.below hbZ
          have hb10 := below_next hbr hbZ
          have hz10 := hb10.size
          clear hHeld hbZ hb8 hb9 hown hbr hne hgd HE1 HE2 hCr hCr_l hCr_0 hCr_1 hCr_2 hCr_3 ck0
          cases dq
          · have Ha : Hid ((ks.take (k + 1)).filter (chg er) = ac2 ++ [x2]) := by show _ = _; rw [Hnew.out]; rfl
            go_wp2_with (at_builtin; refine wpList_append_one rfl _ _ 22 rfl w5.heap.size 3 8 (.int .i64 0) Tryz.underlying22 infoIntS rfl _ ac2 rfl (hown9.alloc _) x2 _ rfl (Box.newAt _ _ _ _ rfl) (by omega) (by omega) (by simp; omega) ?_; intro v' w11 hown11 hg11)
            have hb11 : Below w5.heap.size w5 w11 := Below.grown (hb10.alloc (by omega) _) hg11 (by simp; omega) (fun j hj => (HlO.out j hj).1)
            rw [← Hak.out]
            go_roundg (ks.length - (k + 1))
            case measure => have := hgk.out; omega
            case rel => exact ⟨k + 1, ac2 ++ [x2], by go_num, by omega, rfl, Ha.out.symm, hown11, hb11⟩
          · have Ha : Hid ((ks.take (k + 1)).filter (chg er) = ac2) := by show _ = _; rw [Hnew.out]; simp
            go_wp2_with fail
            rw [← Hak.out]
            go_roundg (ks.length - (k + 1))
            case measure => have := hgk.out; omega
            case rel => exact ⟨k + 1, ac2, by go_num, by omega, rfl, Ha.out.symm, hown9, hb10⟩
        · obtain rfl : k = ks.length := by omega
          rw [List.take_length] at hacc
          have hbF := hb5.trans (hbr.mono (by have := hb5.size; omega))
          go_wp2_with fail
          go_ret
          exact ⟨_, rfl, by rw [HVl.out, ← hacc.out]; exact hown.mono (by have := hb5.size; omega), hbF⟩
end Go.Proofs.YtifflpilnpcmoaaGreatDoor

/-! Entries and moments: slices.Equal, the errors' cmp.Or; what the program and the reference say of a paper is the same. -/
namespace Go.Proofs.YtifflpilnpcmoaaGreatDoor
open Go.RowKit
set_option linter.unusedVariables false
set_option linter.unusedSimpArgs false

theorem SA.ent {w : World} {a : Option Addr} {l : List Ent5} (h : SA w a l) {i : Nat} (hi : i < l.length) :
    ∃ b off, a = some ⟨b, off, none⟩ ∧ w.cell? ⟨b, off + i * 5, none⟩ = some (.string l[i].1) ∧ w.cell? ⟨b, off + i * 5 + 1, none⟩ = some (.int .i64 l[i].2.1) ∧ w.cell? ⟨b, off + i * 5 + 2, none⟩ = some (.string l[i].2.2.1) ∧ w.cell? ⟨b, off + i * 5 + 3, none⟩ = some (.string l[i].2.2.2.1) ∧ w.cell? ⟨b, off + i * 5 + 4, none⟩ = some (.int .i64 l[i].2.2.2.2) := by
  obtain ⟨b, off, ha, hc⟩ := h.at hi
  exact ⟨b, off, ha, hc 0 (by decide), hc 1 (by decide), hc 2 (by decide), hc 3 (by decide), hc 4 (by decide)⟩
set_option maxRecDepth 100000 in
set_option maxHeartbeats 4000000 in
/-- Two slices that read alike are equal. -/
theorem eqEnt_any (l : List Ent5) (a a2 : Option Addr) (cap cap2 : Nat) (w : World) (h : SA w a l) (h2 : SA w a2 l) (hlen : l.length ≤ 1000000000) :
    Calls Tryz.prog 18 #[.slice a l.length cap, .slice a2 l.length cap2] w (Draws (.bool true) w) := by
  have hq0 : ((l.length : Int) != (l.length : Int)) = false := by simp
  go_enter Tryz.func18, Tryz.ntmps18
  go_wp2_with fail
  go_loopg [13] l.length (fun gk i wr => ∃ k : Nat, i = .int .i64 k ∧ k ≤ l.length ∧ Hid (gk = l.length - k) ∧ ∃ n, wr = w.drewN n)
  case atStart => exact ⟨0, rfl, by omega, rfl, 0, rfl⟩
  case round =>
    obtain ⟨k, rfl, hk, hgk, n, rfl⟩ := hrel
    by_cases hlt : k < l.length
    · obtain ⟨b, off, ha, c0, c1, c2, c3, c4⟩ := h.ent hlt
      obtain ⟨b', off', ha', d0, d1, d2, d3, d4⟩ := h2.ent hlt
      rw [ha, ha']
      generalize l[k] = x at *
      obtain ⟨x1, x2, x3, x4, x5⟩ := x
      simp only at *
      have hk1 : (0 : Int) ≤ (k : Int) := by omega
      have hk2 : (k : Int) < (l.length : Int) := by omega
      go_wp2_with fail
      go_quiet (fail)
      go_wp2_with fail
      rw [← ha, ← ha']
      go_roundg (l.length - (k + 1))
      case measure => have := hgk.out; omega
      case rel => exact ⟨k + 1, by go_num, by omega, rfl, _, rfl⟩
    · go_wp2_with fail
      go_ret
      exact ⟨rfl, _, rfl⟩
set_option maxRecDepth 100000 in
set_option maxHeartbeats 4000000 in
theorem equalZ_any (l : List Int) (a a2 : Option Addr) (cap cap2 : Nat) (w : World) (h : SA w a l) (h2 : SA w a2 l) (hlen : l.length ≤ 1000000000) :
    Calls Tryz.prog 20 #[.slice a l.length cap, .slice a2 l.length cap2] w (Draws (.bool true) w) := by
  have hq0 : ((l.length : Int) != (l.length : Int)) = false := by simp
  go_enter Tryz.func20, Tryz.ntmps20
  go_wp2_with fail
  go_loopg [13] l.length (fun gk i wr => ∃ k : Nat, i = .int .i64 k ∧ k ≤ l.length ∧ Hid (gk = l.length - k) ∧ ∃ n, wr = w.drewN n)
  case atStart => exact ⟨0, rfl, by omega, rfl, 0, rfl⟩
  case round =>
    obtain ⟨k, rfl, hk, hgk, n, rfl⟩ := hrel
    by_cases hlt : k < l.length
    · obtain ⟨b, off, ha, c0⟩ := h.intZ hlt
      obtain ⟨b', off', ha', d0⟩ := h2.intZ hlt
      rw [ha, ha']
      generalize l[k] = x at *
      have hk1 : (0 : Int) ≤ (k : Int) := by omega
      have hk2 : (k : Int) < (l.length : Int) := by omega
      go_wp2_with fail
      go_quiet (fail)
      go_wp2_with fail
      rw [← ha, ← ha']
      go_roundg (l.length - (k + 1))
      case measure => have := hgk.out; omega
      case rel => exact ⟨k + 1, by go_num, by omega, rfl, _, rfl⟩
    · go_wp2_with fail
      go_ret
      exact ⟨rfl, _, rfl⟩
set_option maxRecDepth 100000 in
set_option maxHeartbeats 4000000 in
/-- The first of two errors that is not 0. -/
theorem orErr_any (x y : Int) (b : Nat) (w : World) (h : Box w b 36 #[.int .i64 x, .int .i64 y]) :
    Calls Tryz.prog 15 #[.slice (some ⟨b, 0, none⟩) 2 2] w (fun e w' => e = .returned (.int .i64 (if x ≠ 0 then x else y)) ∧ w = w') := by
  have h_l := h.lt; have h_0 := h.cell 0; have h_1 := h.cell 1; simp at h_0 h_1
  by_cases hx : x = 0
  · rw [if_neg (by simp [hx])]
    have hq : (x != 0) = false := by simpa using hx
    clear hx
    by_cases hy : y = 0
    · have hq2 : (y != 0) = false := by simpa using hy
      go_enter Tryz.func15, Tryz.ntmps15
      go_wp2_with fail
      refine wp_loop_rounds 3 ?_
      rw [rounds_succ]
      go_wp2_with fail
      rw [rounds_succ]
      go_wp2_with fail
      rw [rounds_succ]
      go_wp2_with fail
      go_ret
      exact ⟨by rw [hy]; rfl, rfl⟩
    · have hq2 : (y != 0) = true := by simpa using hy
      go_enter Tryz.func15, Tryz.ntmps15
      go_wp2_with fail
      refine wp_loop_rounds 2 ?_
      rw [rounds_succ]
      go_wp2_with fail
      rw [rounds_succ]
      go_wp2_with fail
      go_ret
      exact ⟨rfl, rfl⟩
  · rw [if_pos hx]
    have hq : (x != 0) = true := by simpa using hx
    go_enter Tryz.func15, Tryz.ntmps15
    go_wp2_with fail
    refine wp_loop_rounds 1 ?_
    rw [rounds_succ]
    go_wp2_with fail
    go_ret
    exact ⟨rfl, rfl⟩

theorem run_eqEnt (x y : Ent5) (w : World) : (binOp .eql 35 (entAgg x) (entAgg y)).run Tryz.prog w = .ok (.bool (decide (x = y))) w := by
  obtain ⟨x1, x2, x3, x4, x5⟩ := x
  obtain ⟨y1, y2, y3, y4, y5⟩ := y
  unfold entAgg
  rw [run_eql_struct]
  go_simp
  have e1 : (x1.toList = y1.toList) ↔ x1 = y1 := toList_inj
  have e3 : (x3.toList = y3.toList) ↔ x3 = y3 := toList_inj
  have e4 : (x4.toList = y4.toList) ↔ x4 = y4 := toList_inj
  by_cases h1 : x1 = y1 <;> by_cases h2 : x2 = y2 <;> by_cases h3 : x3 = y3 <;> by_cases h4 : x4 = y4 <;> by_cases h5 : x5 = y5 <;> simp [h1, h2, h3, h4, h5, e1, e3, e4]
theorem guardEq_Ent (p q : Operand) (x y : Ent5) (w : World) : (eqGuard .eql 35 p q (entAgg x) (entAgg y)).run Tryz.prog w = .ok () w := by
  unfold entAgg
  go_simp
/-- What there is of a paper: the same twice. -/
theorem stV_R {o a f : Int} {s : List Skill} {l : List Arv} {id : ByteArray} {t : Int} (h : stE o a f s l id t = 0) : stV o a f s l id t = entR (cntB o a f s) l id t := by
  unfold stV
  rw [if_pos h, entL_R (ownA_ok o a f s l id).1 (ownA_ok o a f s l id).2]
theorem stsV_R (o a f : Int) (s : List Skill) (l : List Arv) (t : Int) : stsV o a f s l t = ((keysS (l.map (·.1))).map (fun id => entR (cntB o a f s) l id t)).filter isEnt := by
  unfold stsV
  congr 1
  exact List.map_congr_left fun id _ => entL_R (ownA_ok o a f s l id).1 (ownA_ok o a f s l id).2 t
theorem momV_R (o a f : Int) (s : List Skill) (l : List Arv) (id : ByteArray) : momL (ownA o a f s l id) id = momR (cntB o a f s) l id := mom_same (ownA_ok o a f s l id).1 (ownA_ok o a f s l id).2
theorem arrs_kind {o a f : Int} {s : List Skill} {l : List Arv} (h : arrsFault o a f s l = 0) : ∀ x ∈ l, kindB x.2.2.1 = true := fun x hx => arrival_kind ((arrsFault_mem h).2.2 x hx)
end Go.Proofs.YtifflpilnpcmoaaGreatDoor
