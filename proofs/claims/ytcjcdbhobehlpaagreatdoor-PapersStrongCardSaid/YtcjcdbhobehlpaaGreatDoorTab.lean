/- The table of wins: table, balance. -/
import Derived.Test.YtcjcdbhobehlpaaGreatDoorWins
import Derived.Test.YtcjcdbhobehlpaaGreatDoorBal
namespace Go.Proofs.YtcjcdbhobehlpaaGreatDoor
open Go.RowKit Go.Sort
set_option linter.unusedVariables false
set_option linter.unusedSimpArgs false

/-- The header of a slice. -/
abbrev Hdr := Option Addr × Nat × Nat
instance : Cel Hdr := ⟨1, fun h => [.slice h.1 h.2.1 h.2.2], fun _ => rfl, by decide, by simp [Value.oneCell']⟩
theorem SA.hdr {w : World} {a : Option Addr} {l : List Hdr} (h : SA w a l) {i : Nat} (hi : i < l.length) :
  ∃ b off, a = some ⟨b, off, none⟩ ∧ w.cell? ⟨b, off + i, none⟩ = some (.slice l[i].1 l[i].2.1 l[i].2.2) := by
 obtain ⟨b, off, ha, hc⟩ := h.at hi
 refine ⟨b, off, ha, ?_⟩
 have := hc 0 (by decide)
 rw [show off + (i * Cel.k Hdr + 0) = off + i from by show off + (i * 1 + 0) = _; omega] at this
 exact this
theorem Tryz.infoRow : (Tryz.prog.info? 22).map (fun i => (i.zero, i.size, i.bytes)) = some (some (.slice none 0 0), 1, 24) := by kernel_rfl
/-- The wins of the paper at i against all papers. -/
def rowOf (l : List Mark) (ks : List ByteArray) (i : Nat) : List Int := ks.map (fun b => winsN l (ks.getD i ⟨#[]⟩) b)
theorem rowOf_length (l : List Mark) (ks : List ByteArray) (i : Nat) : (rowOf l ks i).length = ks.length := by unfold rowOf; rw [List.length_map]
/-- Rows of numbers of length n, each in a block behind tb, none in the block of V. -/
def RowsIn (w : World) (tb n : Nat) (vb : Option Nat) (f : Nat → List Int) (hdrs : List Hdr) : Prop :=
 ∀ i (hi : i < hdrs.length), hdrs[i].2.1 = n ∧ SA w hdrs[i].1 (f i) ∧ ∀ x : Addr, hdrs[i].1 = some x → tb < x.block ∧ x.block < w.heap.size ∧ some x.block ≠ vb
theorem RowsIn.same {w w' : World} {tb n : Nat} {vb : Option Nat} {f : Nat → List Int} {hdrs : List Hdr} (h : RowsIn w tb n vb f hdrs) (hz : w.heap.size ≤ w'.heap.size) (hk : ∀ k, tb < k → k < w.heap.size → some k ≠ vb → w'.heap[k]? = w.heap[k]?) : RowsIn w' tb n vb f hdrs := fun i hi => by
 obtain ⟨h1, h2, h3⟩ := h i hi
 refine ⟨h1, ?_, fun x hx => by have := h3 x hx; exact ⟨this.1, by omega, this.2.2⟩⟩
 rcases h2 with h2 | ⟨b, off, e, h2⟩
 ·
  exact .inl h2
 ·
  by_cases hl : f i = []
  ·
   exact .inl hl
  ·
   have := h3 _ e
   exact .inr ⟨b, off, e, h2.same (hk b this.1 this.2.1 this.2.2)⟩
/-- A table of wins in memory. -/
def TabAt (w : World) (tb : Nat) (ks : List ByteArray) (f : Nat → List Int) : Prop :=
 ∃ (aK : Option Addr) (capK : Nat) (aW : Option Addr) (capW : Nat) (hdrs : List Hdr), Box w tb 66 #[.slice aK ks.length capK, .slice aW ks.length capW] ∧ SA w aK ks ∧ SA w aW hdrs ∧ hdrs.length = ks.length ∧ ∀ i (hi : i < hdrs.length), hdrs[i].2.1 = ks.length ∧ SA w hdrs[i].1 (f i)
theorem TabAt.below {w w' : World} {tb : Nat} {ks : List ByteArray} {f : Nat → List Int} (h : TabAt w tb ks f) (k : Below w.heap.size w w') : TabAt w' tb ks f := by
 obtain ⟨aK, capK, aW, capW, hdrs, h1, h2, h3, h4, h5⟩ := h
 exact ⟨aK, capK, aW, capW, hdrs, h1.below k, h2.below k, h3.below k, h4, fun i hi => ⟨(h5 i hi).1, (h5 i hi).2.below k⟩⟩

set_option maxRecDepth 100000 in
set_option maxHeartbeats 2000000 in
theorem table_any (sb b1 b2 base : Nat) (a : Option Addr) (cap : Nat) (l : List Mark) (es1 es2 : List (ByteArray × Value)) (w : World) (hst : ShSt sb b1 b2 base a l.length cap l l es1 es2 w) (h0 : marksFault l = 0) (hl : l.length ≤ 400) (hks : ∀ x ∈ l, x.1.size ≤ 1000 ∧ x.2.1.size ≤ 1000) (ks : List ByteArray) (hkk : keysOf (fun x => x.1) l = ks) :
  Calls Tryz.prog 24 #[.pointer (some ⟨sb, 0, none⟩)] w (fun e w' => ∃ tb, e = .returned (.pointer (some ⟨tb, 0, none⟩)) ∧ TabAt w' tb ks (rowOf l ks) ∧ w.heap.size ≤ tb ∧ Below w.heap.size w w') := by
 have hS := hst.box
 have H0 := Lib.hid h0
 clear h0
 have hS_l := hS.lt; have hS_0 := hS.cell 0; have hS_1 := hS.cell 1; have hS_2 := hS.cell 2; simp at hS_0 hS_1 hS_2
 go_enter Tryz.func24, Tryz.ntmps24
 go_wp2_with fail
 refine (keys_any b1 base (fun x => x.1) l es1 _ hst.one (by omega) (fun x hx => (hks x hx).1)).mono ?_
 rintro e wk ⟨vk, rfl, hownk, hbk⟩
 clear hS_l hS_0 hS_1 hS_2
 rw [hkk] at hownk
 obtain ⟨aK, capK, rfl, hsaK0, hbK, _⟩ := hownk.sa
 have hzk := hbk.size
 have hkl := keysOf_length (fun x => x.1) l
 rw [hkk] at hkl
 clear hkk
 have HbK : Hid (∀ x : Addr, aK = some x → x.block < wk.heap.size) := fun x hx => (hbK x hx).2
 have hsaK := hsaK0.alloc (.cells #[.slice aK ks.length capK, .slice none 0 0] 66)
 have hB := Box.new wk 66 #[.slice aK ks.length capK, .slice none 0 0]
 have hbw : Below w.heap.size w (wk.alloc (.cells #[.slice aK ks.length capK, .slice none 0 0] 66)) := hbk.alloc hzk _
 have hzt : wk.heap.size < (wk.alloc (.cells #[.slice aK ks.length capK, .slice none 0 0] 66)).heap.size := by simp
 clear hownk hbK hS hsaK0 hbk
 have hBc := hB
 generalize hWt : wk.alloc (.cells #[.slice aK ks.length capK, .slice none 0 0] 66) = wt at *
 generalize htb : wk.heap.size = tb at *
 have hBc_l := hBc.lt; have hBc_0 := hBc.cell 0; have hBc_1 := hBc.cell 1; simp at hBc_0 hBc_1
 go_upto_region 2 with (fail)
 (try simp only [hWt, htb])
 clear hWt
 go_wp2_with fail
 clear hBc_l hBc_0 hBc_1
 clear hBc
 go_loopg [21] ks.length (fun gk i wr => ∃ (k : Nat) (hdrs : List Hdr) (V : Value), i = .int .i64 k ∧ k ≤ ks.length ∧ Hid (gk = ks.length - k) ∧ hdrs.length = k ∧ Box wr tb 66 #[.slice aK ks.length capK, V] ∧ Own (tb + 1) 22 wr V hdrs ∧ RowsIn wr tb ks.length V.ownBlock (rowOf l ks) hdrs ∧ SA wr aK ks ∧ Below w.heap.size w wr)
 case atStart => exact ⟨0, [], _, rfl, by omega, rfl, rfl, hB, Own.nil _ _ _, fun i hi => by simp at hi, hsaK, hbw⟩
 clear hB hsaK hbw hzt
 obtain ⟨k, hdrs, V, rfl, hk, hgk, hhl, hB, hown, hrows, hsaK, hb⟩ := hrel
 subst hhl
 by_cases hlt : hdrs.length < ks.length
 ·
  obtain ⟨kb, koff, haK, ck⟩ := hsaK.str hlt
  have hrow : rowOf l ks hdrs.length = ks.map (winsN l ks[hdrs.length]) := by unfold rowOf; rw [List.getD_eq_getElem?_getD, List.getElem?_eq_getElem hlt]; rfl
  have Hrow := Lib.hid hrow
  have HaK := Lib.hid haK
  rw [haK] at hB ⊢
  clear haK hrow
  generalize ks[hdrs.length] = pa at *
  obtain ⟨wv, rfl⟩ : ∃ wv : World, wv = wr := ⟨_, rfl⟩
  have hzv := hB.lt
  have hBc := hB
  have hBc_l := hBc.lt; have hBc_0 := hBc.cell 0; have hBc_1 := hBc.cell 1; simp at hBc_0 hBc_1
  go_wp2_with fail
  clear hBc_l hBc_0 hBc_1
  clear hBc ck
  go_loopg [6, 30] ks.length (fun gk v i wx => ∃ j : Nat, i = .int .i64 j ∧ j ≤ ks.length ∧ Hid (gk = ks.length - j) ∧ Own wv.heap.size 3 wx v ((ks.take j).map (winsN l pa)) ∧ Below wv.heap.size wv wx)
  case atStart => exact ⟨0, rfl, by omega, rfl, Own.nil _ _ _, Below.refl _ _⟩
  obtain ⟨j, rfl, hj, hgj, hownr, hbx⟩ := hrel
  by_cases hjl : j < ks.length
  ·
   obtain ⟨jb, joff, haJ, cj⟩ := (hsaK.below hbx).str hjl
   rw [HaK.out] at haJ
   cases haJ
   have htake := List.take_succ_eq_append_getElem hjl
   have Htake := Lib.hid (show (ks.take (j + 1)).map (winsN l pa) = (ks.take j).map (winsN l pa) ++ [winsN l pa ks[j]] by rw [htake, List.map_append]; rfl)
   have hlen : ((ks.take j).map (winsN l pa)).length ≤ 400 := by rw [List.length_map, List.length_take]; omega
   clear htake
   generalize ks[j] = pb at *
   generalize (ks.take j).map (winsN l pa) = rs at *
   have HW := Lib.hid (wins_any sb b1 b2 base a cap l es1 es2 wr (hst.below (hb.trans (hbx.mono hb.size))) H0.out hl pa pb)
   generalize winsN l pa pb = wn at *
   go_wp2_with fail
   refine HW.out.mono ?_
   rintro e wl ⟨rfl, hbl⟩
   have hown3 := (hownr.below hbl).alloc (.cells #[.int .i64 wn] 3)
   have hbo := Box.new wl 3 #[.int .i64 wn]
   have hbx3 : Below wv.heap.size wv (wl.alloc (.cells #[.int .i64 wn] 3)) := (hbx.trans (hbl.mono hbx.size)).alloc (by have := (hbx.trans (hbl.mono hbx.size)).size; exact this) _
   have hzl : wv.heap.size ≤ wl.heap.size := (hbx.trans (hbl.mono hbx.size)).size
   clear hownr hbx cj
   go_wp2_with (at_builtin; refine wpList_append_lie (α := Int) rfl _ _ 22 rfl 3 8 (.int .i64 0) Tryz.underlying22 Tryz.infoInt rfl u6 rs rfl hown3 wn wl.heap.size rfl hbo (by omega) (by omega) (by simp; omega) ?_; intro gg cap1 W4 hown4 hgrow hat)
   have hbx4 : Below wv.heap.size wv W4 := hbx3.grown hgrow hbx3.size (fun j hj => (hown3.lt j hj).1)
   go_wp2_with fail
   go_roundg (ks.length - (j + 1))
   case measure => have := hgj.out; omega
   case rel => exact ⟨j + 1, by go_num, by omega, rfl, by rw [Htake.out]; exact hown4, hbx4⟩
  ·
   obtain rfl : j = ks.length := by omega
   rw [List.take_length, ← Hrow.out] at hownr
   have hrl := rowOf_length l ks hdrs.length
   obtain ⟨ar, capr, rfl, hsar, hbr, _⟩ := hownr.sa
   rw [hrl]
   have hB2 := hB.below hbx
   have hown2 := hown.below hbx
   have hrows2 : RowsIn wr tb ks.length V.ownBlock (rowOf l ks) hdrs := hrows.same hbx.size (fun k _ hk _ => hbx.block k hk)
   have hsaK2 := hsaK.below hbx
   have hb2 := hb.trans (hbx.mono hb.size)
   have hvlt : ∀ b, V.ownBlock = some b → tb + 1 ≤ b ∧ b < wv.heap.size := hown.lt
   have Hvlt := Lib.hid hvlt
   have Hbr := Lib.hid hbr
   have hzx := hbx.size
   clear hjl hgj hB hown hrows hsaK hbx hownr hb hvlt hbr
   have hown3 := hown2.alloc (.cells #[.slice ar ks.length capr] 22)
   have hbo := Box.new wr 22 #[.slice ar ks.length capr]
   have hneB : some tb ≠ V.ownBlock := fun e => by have := (Hvlt.out _ e.symm).1; omega
   have HneB := Lib.hid hneB
   clear hneB
   have hBc := hB2
   have hBc_l := hBc.lt; have hBc_0 := hBc.cell 0; have hBc_1 := hBc.cell 1; simp at hBc_0 hBc_1
   go_wp2_with (at_builtin; refine wpList_append_lie (α := Hdr) rfl _ _ 64 rfl 22 24 (.slice none 0 0) Tryz.underlying64 Tryz.infoRow rfl V hdrs rfl hown3 (ar, ks.length, capr) wr.heap.size rfl hbo (by omega) (by omega) (by simp; omega) ?_; intro gg cap1 W4 hown4 hgrow hat; have hB4 := (hB2.alloc (.cells #[.slice ar ks.length capr] 22)).grown hgrow HneB.out; have hB4_1 := hB4.cell 1; simp at hB4_1; have hB4_f := hB4.frozen 1)
   have hB5 : Box (W4.setCell ⟨tb, 1, none⟩ (.slice (some ⟨gg, 0, none⟩) (hdrs.length + 1) cap1)) tb 66 #[.slice (some ⟨kb, koff, none⟩) ks.length capK, .slice (some ⟨gg, 0, none⟩) (hdrs.length + 1) cap1] := hB4.set 1 _
   have hown5 := hown4.setOther (p := ⟨tb, 1, none⟩) (fun b hb => by have := (hown4.lt b hb).1; simp; omega) (.slice (some ⟨gg, 0, none⟩) (hdrs.length + 1) cap1)
   have hsaK5 := ((hsaK2.alloc (.cells #[.slice ar ks.length capr] 22)).grownS hgrow (fun x hx e => by have := (Hvlt.out _ e.symm).1; have := HbK.out x hx; omega)).putOther (p := ⟨tb, 1, none⟩) (fun x hx => by have := HbK.out x hx; simp; omega) (.slice (some ⟨gg, 0, none⟩) (hdrs.length + 1) cap1)
   have hb5 := ((hb2.alloc hb2.size (.cells #[.slice ar ks.length capr] 22)).grown hgrow (by have := hb2.size; simp; omega) (fun j hj => by have := (Hvlt.out j hj).1; omega)).setCell (p := ⟨tb, 1, none⟩) (by simp; omega) (.slice (some ⟨gg, 0, none⟩) (hdrs.length + 1) cap1)
   have hgs := hgrow.size
   have hkeep : ∀ k, tb < k → k < wr.heap.size → some k ≠ V.ownBlock → (W4.setCell ⟨tb, 1, none⟩ (.slice (some ⟨gg, 0, none⟩) (hdrs.length + 1) cap1)).heap[k]? = wr.heap[k]? := fun k h1 h2 h3 => by
    rw [Below.heap_setCell _ _ _ _ (by simp; omega), hgrow.block k (by simp; omega) h3, Below.heap_alloc _ _ _ h2]
   have hgne : ∀ k, k < wr.heap.size → some k ≠ V.ownBlock → some k ≠ some gg := fun k h1 h2 e => by
    rcases hat with h | h
    ·
     exact h2 (e.trans h.symm)
    ·
     simp at h; have := Option.some.inj e; omega
   have hrows5 : RowsIn (W4.setCell ⟨tb, 1, none⟩ (.slice (some ⟨gg, 0, none⟩) (hdrs.length + 1) cap1)) tb ks.length (some gg) (rowOf l ks) (hdrs ++ [(ar, ks.length, capr)]) := by
    intro i hi
    rw [List.length_append] at hi
    have hsz : wr.heap.size ≤ (W4.setCell ⟨tb, 1, none⟩ (.slice (some ⟨gg, 0, none⟩) (hdrs.length + 1) cap1)).heap.size := by simp [World.setCell]; simp at hgs; omega
    by_cases hik : i < hdrs.length
    ·
     rw [List.getElem_append_left hik]
     obtain ⟨r1, r2, r3⟩ := hrows2.same hsz hkeep i hik
     refine ⟨r1, r2, fun x hx => ?_⟩
     have := r3 x hx
     exact ⟨this.1, this.2.1, hgne _ ((hrows2 i hik).2.2 x hx).2.1 this.2.2⟩
    ·
     have hik2 : i = hdrs.length := by simp at hi; omega
     subst hik2
     have hnv : ∀ x : Addr, ar = some x → some x.block ≠ V.ownBlock := fun x hx e => by have := (Hvlt.out _ e.symm).2; have := (Hbr.out x hx).1; omega
     rw [List.getElem_append_right (Nat.le_refl _)]
     simp only [Nat.sub_self, List.getElem_cons_zero]
     refine ⟨trivial, ?_, fun x hx => ?_⟩
     ·
      rcases hsar with h | ⟨b, off, e, h⟩
      ·
       exact .inl h
      ·
       by_cases hl : rowOf l ks hdrs.length = []
       ·
        exact .inl (hl)
       ·
        have h1 := Hbr.out _ e
        simp only at h1
        exact .inr ⟨b, off, e, h.same (hkeep b (by omega) h1.2 (hnv _ e))⟩
     ·
      have h1 := Hbr.out x hx
      exact ⟨by omega, by omega, hgne _ h1.2 (hnv x hx)⟩
   have Hrows5 := Lib.hid hrows5
   clear hB4 hB4_1 hB4_f hown4 hsaK2 hb2 hrows2 hkeep hgne hrows5 hgrow hat hown3 hbo hown2 hB2
   clear hBc_l hBc_0 hBc_1
   clear hBc
   go_wp2_with fail
   rw [← HaK.out]
   go_roundg (ks.length - (hdrs.length + 1))
   case measure => have := hgk.out; omega
   case rel => exact ⟨hdrs.length + 1, hdrs ++ [(ar, ks.length, capr)], _, by go_num, by omega, rfl, by rw [List.length_append]; rfl, by rw [HaK.out]; exact hB5, hown5, Hrows5.out, hsaK5, hb5⟩
 ·
  have hkk : hdrs.length = ks.length := by omega
  obtain ⟨aW, capW, rfl, hsaW, _, _⟩ := hown.sa
  rw [hkk] at hB ⊢
  have hT : TabAt wr tb ks (rowOf l ks) := ⟨aK, capK, aW, capW, hdrs, hB, hsaK, hsaW, hkk, fun i hi => ⟨(hrows i hi).1, (hrows i hi).2.1⟩⟩
  have hT2 := Lib.hid hT
  clear hB hown hrows hsaW hsaK hT hlt
  go_wp2_with fail
  go_ret
  exact ⟨tb, rfl, hT2.out, hzk, hb⟩
/-- How many comparisons are won, less those lost, against the first k. -/
def balS (f : Nat → List Int) (i : Nat) : Nat → Int
 | 0 => 0
 | k + 1 => balS f i k + cmpI ((f i).getD k 0) ((f k).getD i 0)
theorem balS_bd (f : Nat → List Int) (i : Nat) : ∀ k : Nat, -(k : Int) ≤ balS f i k ∧ balS f i k ≤ k
 | 0 => by simp [balS]
 | k + 1 => by
  have ih := balS_bd f i k
  have := cmpI_bd ((f i).getD k 0) ((f k).getD i 0)
  rw [balS]; omega
end Go.Proofs.YtcjcdbhobehlpaaGreatDoor
