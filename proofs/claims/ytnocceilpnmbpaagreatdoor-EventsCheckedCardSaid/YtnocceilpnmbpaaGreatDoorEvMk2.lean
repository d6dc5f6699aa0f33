/- What several desks have: the maker Desks. -/
import Derived.Test.YtnocceilpnmbpaaGreatDoorEvMk1
import Derived.Test.YtnocceilpnmbpaaGreatDoorRegF
import Derived.Laws.MakeOwn
import Derived.Laws.OwnMore
namespace Go.Proofs.YtnocceilpnmbpaaGreatDoor
open Go.RowKit
set_option linter.unusedVariables false
set_option linter.unusedSimpArgs false

/-- What is kept of the desks' lists. -/
structure Keeps (G : List Ev → Prop) : Prop where
 nil : G []
 unite : ∀ a b, G a → G b → (uniteR a b).1 = 0 → G (uniteR a b).2
 add : ∀ l e0 a c, G l → e0.after = headsL l → addErr l e0 = 0 → G (sortE (l ++ [summed e0 a c]))
/-- A value is a list of events of the maker's own. -/
def DeskL (G : List Ev → Prop) (base : Nat) (w : World) (v : Value) : Prop := ∃ l : List Ev, NL base 53 w v l ∧ l.length ≤ 1500 ∧ (∀ e ∈ l, EvOk e) ∧ G l
theorem DeskL.kp {G : List Ev → Prop} {base : Nat} {w w' : World} {v : Value} {X : Nat → Prop} (h : DeskL G base w v) (k : Kp X w w') (hX : ∀ j, base ≤ j → ¬ X j) : DeskL G base w' v := by
 obtain ⟨l, h1, h2, h3, h4⟩ := h
 exact ⟨l, h1.kp k hX, h2, h3, h4⟩
theorem DeskL.below {G : List Ev → Prop} {base : Nat} {w w' : World} {v : Value} (h : DeskL G base w v) (k : Below w.heap.size w w') : DeskL G base w' v := by
 obtain ⟨l, h1, h2, h3, h4⟩ := h
 exact ⟨l, h1.below k, h2, h3, h4⟩
theorem DeskL.form {G : List Ev → Prop} {base : Nat} {w : World} {v : Value} (h : DeskL G base w v) : ∃ (l : List Ev) (a : Option Addr) (c : Nat), v = .slice a l.length c ∧ EvsAt w a l ∧ (a = none ∨ ∃ b off, a = some ⟨b, off, none⟩) ∧ AdsIn base w.heap.size l ∧ l.length ≤ 1500 ∧ (∀ e ∈ l, EvOk e) ∧ G l := by
 obtain ⟨l, h1, h2, h3, h4⟩ := h
 obtain ⟨a, c, rfl, hsa, hf, -⟩ := h1.1.form
 refine ⟨l, a, c, rfl, ⟨hsa, h1.rd⟩, ?_, fun e he y hy => ?_, h2, h3, h4⟩
 ·
  rcases hf with h | ⟨b, h, -⟩
  ·
   exact .inl h
  ·
   exact .inr ⟨b, 0, h⟩
 ·
  have hy' : y ∈ Nst.ads e := by show y ∈ e.a.toList; rw [hy]; simp
  obtain ⟨g1, g2, -⟩ := (h1.2 e he).2 y hy'
  exact ⟨g1, g2⟩
theorem evsRes_len {l : List Ev} (h : (evsRes l).2 = 0) : l.length ≤ 1500 := by
 apply Classical.byContradiction
 intro hn
 rw [evsRes_large (by omega)] at h
 exact absurd h (by decide)
theorem uniteTo_mem {l : List Ev} : ∀ (k : Nat) {out : List Ev}, uniteTo l k = some out → ∀ e ∈ out, e ∈ l
 | 0, out, h, e, he => by rw [← Option.some.inj h] at he; cases he
 | k + 1, out, h, e, he => by
  rw [uniteTo] at h
  split at h
  ·
   cases h
  ·
   rename_i o ho
   split at h
   ·
    rw [← Option.some.inj h] at he; exact uniteTo_mem k ho e he
   ·
    rename_i x hx
    rcases (uniteS_mem h).1 e he with h1 | h1
    ·
     exact uniteTo_mem k ho e h1
    ·
     rw [h1]; exact List.mem_of_getElem? hx
theorem uniteR_mem {a b : List Ev} : ∀ e ∈ (uniteR a b).2, e ∈ a ++ b := by
 intro e he
 unfold uniteR at he
 split at he
 ·
  cases he
 ·
  split at he
  ·
   cases he
  ·
   rename_i out ho
   split at he
   ·
    cases he
   ·
    exact uniteTo_mem _ ho e ((sortE_mem e).1 he)
theorem uniteR_len {a b : List Ev} (h : (uniteR a b).1 = 0) : (uniteR a b).2.length ≤ 1500 := by
 by_cases h15 : 1500 < b.length
 ·
  rw [uniteR_large h15]; simp
 ·
  cases ho : uniteTo (a ++ b) (a ++ b).length with
  | none => rw [uniteR_none h15 ho (Nat.le_refl _)]; simp
  | some out =>
   by_cases hz : (evsRes (sortE out)).2 = 0
   ·
    rw [uniteR_ok h15 ho hz]; exact evsRes_len hz
   ·
    rw [uniteR_bad h15 ho hz]; simp
theorem summed_ok {e0 : Ev} (h : EvOk e0) (a : Option Addr) (c : Nat) : EvOk (summed e0 a c) :=
 ⟨by have := evSum_size e0; show (evSum e0).size ≤ _; omega, h.desk, h.at1, h.at2, h.len, h.after, h.kind1, h.kind2, h.who, h.paper, h.wth, h.txt⟩
theorem addErr_len {l : List Ev} {e0 : Ev} (h : addErr l e0 = 0) : l.length ≠ 1500 := by
 intro hl
 unfold addErr at h
 split at h
 ·
  exact absurd h (by decide)
 ·
  rw [if_pos (.inl hl)] at h
  exact absurd h (by decide)
theorem DeskL.united {G : List Ev → Prop} (hG : Keeps G) {base : Nat} {w : World} {v : Value} {a b : List Ev} (h : NL base 53 w v (uniteR a b).2) (he : (uniteR a b).1 = 0) (ha : ∀ e ∈ a, EvOk e) (hb : ∀ e ∈ b, EvOk e) (ga : G a) (gb : G b) : DeskL G base w v :=
 ⟨_, h, uniteR_len he, fun e hm => (List.mem_append.1 (uniteR_mem e hm)).elim (ha e) (hb e), hG.unite a b ga gb he⟩
theorem DeskL.added {G : List Ev → Prop} (hG : Keeps G) {base : Nat} {w : World} {v : Value} {l m : List Ev} {e0 : Ev} (h : NL base 53 w v m) (he : addErr l e0 = 0) (h2 : ∃ a c, m = sortE (l ++ [summed e0 a c])) (hl : l.length ≤ 1500) (ha : ∀ e ∈ l, EvOk e) (h0 : EvOk e0) (hd : e0.after = headsL l) (ga : G l) : DeskL G base w v := by
 obtain ⟨a, c, rfl⟩ := h2
 refine ⟨_, h, ?_, sortE_all (fun e hm => (List.mem_append.1 hm).elim (ha e) (fun h => by rw [List.mem_singleton.1 h]; exact summed_ok h0 a c)), hG.add l e0 a c ga hd he⟩
 have := addErr_len he
 rw [sortE_len, List.length_append]
 simp
 omega
theorem run_make_lenE {P : Program} (t e : TypeId) (z : Value) (bts : Nat) (h1 : P.underlying t = some (.slice e)) (h2 : (P.info? e).map (fun i => (i.zero, i.size, i.bytes)) = some (some z, 1, bts)) (hz : z.cells = #[z])
  (n : Nat) (hn : bts * n ≤ 281474976710656) (hn2 : n ≤ 9223372036854775807) (w : World) :
  (Instr.makeSlice t (.int .i64 (n : Int)) (.int .i64 (n : Int))).run P w = .ok (.slice (some ⟨w.heap.size, 0, none⟩) n n) (w.alloc (.cells (Array.replicate n z) e)) := by
 obtain ⟨i, hi, he⟩ := Option.map_eq_some_iff.1 h2
 obtain ⟨e1, e2, e3⟩ : i.zero = some z ∧ i.size = 1 ∧ i.bytes = bts := by simpa using he
 have hb : (i.bytes : Int) * (n : Int) ≤ 281474976710656 := by
  have h : ((i.bytes * n : Nat) : Int) ≤ 281474976710656 := by rw [e3]; omega
  rwa [Int.natCast_mul] at h
 have hr := run_make (P := P) w t e i z h1 hi e1 .i64 .i64 n n (by omega) (by omega) hb (by omega)
 simp only [Int.toNat_natCast] at hr
 rw [hr, e2, Nat.mul_one, hz]
 have hm : madeCells #[z] n = Array.replicate n z := by rw [← Array.toList_inj, toList_madeCells_one, Array.toList_replicate]
 rw [hm]
theorem run_make3 (w : World) : (Instr.makeSlice 58 (.int .i64 3) (.int .i64 3)).run Tryz.prog w = .ok (.slice (some ⟨w.heap.size, 0, none⟩) 3 3) (w.alloc (.cells #[.slice none 0 0, .slice none 0 0, .slice none 0 0] 26)) :=
 run_make_lenE 58 26 (.slice none 0 0) 24 Tryz.underlying58 (by kernel_rfl) rfl 3 (by decide) (by decide) w
/-- The three lists, and the three moments. -/
def Desk3 (G : List Ev → Prop) (base : Nat) (m : Int) (w : World) (vs zs : Array Value) : Prop :=
 vs.size = 3 ∧ zs.size = 3 ∧ (∀ i (h : i < vs.size), DeskL G base w vs[i]) ∧ ∀ i (h : i < zs.size), ∃ z : Int, zs[i] = .int .i64 z ∧ 0 ≤ z ∧ z ≤ m
theorem Desk3.kp {G : List Ev → Prop} {base : Nat} {m : Int} {w w' : World} {vs zs : Array Value} {X : Nat → Prop} (h : Desk3 G base m w vs zs) (k : Kp X w w') (hX : ∀ j, base ≤ j → ¬ X j) : Desk3 G base m w' vs zs := ⟨h.1, h.2.1, fun i hi => (h.2.2.1 i hi).kp k hX, h.2.2.2⟩
theorem Desk3.below {G : List Ev → Prop} {base : Nat} {m : Int} {w w' : World} {vs zs : Array Value} (h : Desk3 G base m w vs zs) (k : Below w.heap.size w w') : Desk3 G base m w' vs zs := ⟨h.1, h.2.1, fun i hi => (h.2.2.1 i hi).below k, h.2.2.2⟩
theorem Desk3.mono {G : List Ev → Prop} {base : Nat} {m m' : Int} {w : World} {vs zs : Array Value} (h : Desk3 G base m w vs zs) (hm : m ≤ m') : Desk3 G base m' w vs zs := ⟨h.1, h.2.1, h.2.2.1, fun i hi => by obtain ⟨z, h1, h2, h3⟩ := h.2.2.2 i hi; exact ⟨z, h1, h2, by omega⟩⟩
theorem Desk3.putV {G : List Ev → Prop} {base : Nat} {m : Int} {w : World} {vs zs : Array Value} (h : Desk3 G base m w vs zs) (k : Nat) {v : Value} (hv : DeskL G base w v) : Desk3 G base m w (vs.setIfInBounds k v) zs := by
 refine ⟨by rw [Array.size_setIfInBounds]; exact h.1, h.2.1, fun i hi => ?_, h.2.2.2⟩
 rw [Array.getElem_setIfInBounds]
 split
 ·
  exact hv
 ·
  exact h.2.2.1 i (by rw [Array.size_setIfInBounds] at hi; exact hi)
theorem Desk3.putZ {G : List Ev → Prop} {base : Nat} {m : Int} {w : World} {vs zs : Array Value} (h : Desk3 G base m w vs zs) (k : Nat) {z : Int} (h0 : 0 ≤ z) (h1 : z ≤ m) : Desk3 G base m w vs (zs.setIfInBounds k (.int .i64 z)) := by
 refine ⟨h.1, by rw [Array.size_setIfInBounds]; exact h.2.1, h.2.2.1, fun i hi => ?_⟩
 rw [Array.getElem_setIfInBounds]
 split
 ·
  exact ⟨z, rfl, h0, h1⟩
 ·
  exact h.2.2.2 i (by rw [Array.size_setIfInBounds] at hi; exact hi)
/-- The maker's world: names, lists, moments. -/
structure DW (G : List Ev → Prop) (S q : Nat) (m : Int) (w0 W : World) (vs zs : Array Value) : Prop where
 names : Box W q 9 #[.string ⟨#[97]⟩, .string ⟨#[98]⟩, .string ⟨#[99]⟩]
 lists : Box W (q + 1) 26 vs
 moms : Box W (q + 2) 93 zs
 three : Desk3 G (q + 3) m W vs zs
 st : Stp S w0 W
 size : q + 3 ≤ W.heap.size
 env : EnvE W
 envS : EnvSE S
 lt : S < q
 w0q : w0.heap.size = q
section
variable {G : List Ev → Prop} {S q : Nat} {m : Int} {w0 W W' : World} {vs zs : Array Value}
theorem DW.stp (h : DW G S q m w0 W vs zs) (k : Stp S W W') : DW G S q m w0 W' vs zs :=
 have hl := h.lt
 ⟨h.names.stp k (by omega), h.lists.stp k (by omega), h.moms.stp k (by omega), h.three.kp (X := fun j => j = S) (Kp.of_stp k rfl) (fun j hj => by omega), h.st.trans k, Nat.le_trans h.size k.size, h.env.stp k h.envS, h.envS, hl, h.w0q⟩
theorem DW.below (h : DW G S q m w0 W vs zs) (k : Below W.heap.size W W') : DW G S q m w0 W' vs zs := h.stp (Stp.of_below k)
theorem DW.mono {m' : Int} (h : DW G S q m w0 W vs zs) (hm : m ≤ m') : DW G S q m' w0 W vs zs := ⟨h.names, h.lists, h.moms, h.three.mono hm, h.st, h.size, h.env, h.envS, h.lt, h.w0q⟩
theorem DW.putV (h : DW G S q m w0 W vs zs) (i : Nat) {v : Value} (hv : DeskL G (q + 3) W v) : DW G S q m w0 (W.setCell ⟨q + 1, i, none⟩ v) (vs.setIfInBounds i v) zs := by
 have hl := h.lt
 have hk : Kp (fun j => j = q + 1) W (W.setCell ⟨q + 1, i, none⟩ v) := (Kp.refl (fun j => j = q + 1) W).setCell (p := ⟨q + 1, i, none⟩) (.inl rfl) _
 refine ⟨h.names.setOther (by show q + 1 ≠ q; omega) _, h.lists.set i v, h.moms.setOther (by show q + 1 ≠ q + 2; omega) _, (h.three.kp hk (fun j hj => by omega)).putV i (hv.kp hk (fun j hj => by omega)), ?_, by have := h.size; have := hk.size; omega, h.env.kp hk (h.envS.mono (show S ≤ q by omega)) (fun j hj => by omega), h.envS, hl, h.w0q⟩
 exact h.st.setCell (.inr (by rw [h.w0q]; show q ≤ q + 1; omega)) _
theorem DW.putZ (h : DW G S q m w0 W vs zs) (i : Nat) {z : Int} (h0 : 0 ≤ z) (h1 : z ≤ m) : DW G S q m w0 (W.setCell ⟨q + 2, i, none⟩ (.int .i64 z)) vs (zs.setIfInBounds i (.int .i64 z)) := by
 have hl := h.lt
 have hk : Kp (fun j => j = q + 2) W (W.setCell ⟨q + 2, i, none⟩ (.int .i64 z)) := (Kp.refl (fun j => j = q + 2) W).setCell (p := ⟨q + 2, i, none⟩) (.inl rfl) _
 refine ⟨h.names.setOther (by show q + 2 ≠ q; omega) _, h.lists.setOther (by show q + 2 ≠ q + 1; omega) _, h.moms.set i _, (h.three.kp hk (fun j hj => by omega)).putZ i h0 h1, ?_, by have := h.size; have := hk.size; omega, h.env.kp hk (h.envS.mono (show S ≤ q by omega)) (fun j hj => by omega), h.envS, hl, h.w0q⟩
 exact h.st.setCell (.inr (by rw [h.w0q]; show q ≤ q + 2; omega)) _
theorem DW.list (h : DW G S q m w0 W vs zs) {i : Nat} (hi : i < 3) : ∃ (l : List Ev) (a : Option Addr) (c : Nat), W.cell? ⟨q + 1, i, none⟩ = some (.slice a l.length c) ∧ EvsAt W a l ∧ (a = none ∨ ∃ b off, a = some ⟨b, off, none⟩) ∧ AdsIn (q + 3) W.heap.size l ∧ l.length ≤ 1500 ∧ (∀ e ∈ l, EvOk e) ∧ G l := by
 have hsz := h.three.1
 obtain ⟨l, a, c, he, h1⟩ := (h.three.2.2.1 i (by omega)).form
 exact ⟨l, a, c, by rw [h.lists.cell i, Array.getElem?_eq_getElem (by omega), he], h1⟩
theorem DW.mom (h : DW G S q m w0 W vs zs) {i : Nat} (hi : i < 3) : ∃ z : Int, W.cell? ⟨q + 2, i, none⟩ = some (.int .i64 z) ∧ 0 ≤ z ∧ z ≤ m := by
 have hsz := h.three.2.1
 obtain ⟨z, he, h1⟩ := h.three.2.2.2 i (by omega)
 exact ⟨z, by rw [h.moms.cell i, Array.getElem?_eq_getElem (by omega), he], h1⟩
theorem DW.name (h : DW G S q m w0 W vs zs) {i : Nat} (hi : i < 3) : ∃ s : ByteArray, W.cell? ⟨q, i, none⟩ = some (.string s) ∧ s.size ≤ 1000 := by
 obtain rfl | rfl | rfl : i = 0 ∨ i = 1 ∨ i = 2 := by omega
 ·
  exact ⟨_, h.names.cell 0, by decide⟩
 ·
  exact ⟨_, h.names.cell 1, by decide⟩
 ·
  exact ⟨_, h.names.cell 2, by decide⟩
end
def SomeDesks (G : List Ev → Prop) (S : Nat) (B : Int) (w : World) (e : Ending) (w' : World) : Prop :=
 ∃ (b : Nat) (vs : Array Value), e = .returned (.slice (some ⟨b, 0, none⟩) 3 3) ∧ w.heap.size ≤ b ∧ Box w' b 26 vs ∧ vs.size = 3 ∧ (∀ i (h : i < vs.size), DeskL G (b + 2) w' vs[i]) ∧ Stp S w w' ∧ Strm S (B + 300) w'
theorem Keeps3 {w w' : World} {p1 p2 p3 : Addr} {v1 v2 v3 : Value} (h : Below w.heap.size w w') (g : w.cell? p1 = some v1 ∧ w.cell? p2 = some v2 ∧ w.cell? p3 = some v3) : w'.cell? p1 = some v1 ∧ w'.cell? p2 = some v2 ∧ w'.cell? p3 = some v3 := ⟨(h.cell (World.block_lt_of_cell? w p1 g.1)).trans g.1, (h.cell (World.block_lt_of_cell? w p2 g.2.1)).trans g.2.1, (h.cell (World.block_lt_of_cell? w p3 g.2.2)).trans g.2.2⟩
set_option maxRecDepth 100000 in
set_option maxHeartbeats 8000000 in
theorem desks_any (G : List Ev → Prop) (hG : Keeps G) (S : Nat) (B : Int) (w : World) (hs : Strm S B w) (hB : B ≤ 999980000) (hE : EnvE w) (hES : EnvSE S) : Calls Tryz.prog 30 #[.pointer (some ⟨S, 0, none⟩)] w (SomeDesks G S B w) := by
 have hSl := hs.lt
 have hmk := run_make3
 go_enter Tryz.func30, Tryz.ntmps30
 go_upto_region 4 with (fail)
 have hq : ∃ q, w.heap.size = q := ⟨_, rfl⟩
 obtain ⟨q, hq⟩ := hq
 have hDW : DW G S q 0 w (((w.alloc (.cells #[.string ⟨#[97]⟩, .string ⟨#[98]⟩, .string ⟨#[99]⟩] 9)).alloc (.cells #[.slice none 0 0, .slice none 0 0, .slice none 0 0] 26)).alloc (.cells #[.int .i64 0, .int .i64 0, .int .i64 0] 93)) #[.slice none 0 0, .slice none 0 0, .slice none 0 0] #[.int .i64 0, .int .i64 0, .int .i64 0] := by
  have hnil : ∀ W, DeskL G (q + 3) W (.slice none 0 0) := fun W => ⟨[], NL.nil _ _ _, by simp, fun e he => (by cases he), hG.nil⟩
  refine ⟨((Box.newAt _ _ _ _ hq.symm).alloc _).alloc _, (Box.newAt _ _ _ _ (by simp; omega)).alloc _, Box.newAt _ _ _ _ (by simp; omega), ⟨rfl, rfl, fun i hi => ?_, fun i hi => ?_⟩, (((Stp.refl S w).alloc _).alloc _).alloc _, by simp; omega, ((hE.alloc _).alloc _).alloc _, hES, by omega, hq⟩
  ·
   have hi : i < 3 := hi
   obtain rfl | rfl | rfl : i = 0 ∨ i = 1 ∨ i = 2 := by omega
   all_goals exact hnil _
  ·
   have hi : i < 3 := hi
   obtain rfl | rfl | rfl : i = 0 ∨ i = 1 ∨ i = 2 := by omega
   all_goals exact ⟨0, rfl, by omega, by omega⟩
 have hs0 : Strm S B (((w.alloc (.cells #[.string ⟨#[97]⟩, .string ⟨#[98]⟩, .string ⟨#[99]⟩] 9)).alloc (.cells #[.slice none 0 0, .slice none 0 0, .slice none 0 0] 26)).alloc (.cells #[.int .i64 0, .int .i64 0, .int .i64 0] 93)) := ((hs.alloc _).alloc _).alloc _
 generalize ((w.alloc (.cells #[.string ⟨#[97]⟩, .string ⟨#[98]⟩, .string ⟨#[99]⟩] 9)).alloc (.cells #[.slice none 0 0, .slice none 0 0, .slice none 0 0] 26)).alloc (.cells #[.int .i64 0, .int .i64 0, .int .i64 0] 93) = W0 at *
 have HW0 : Hid (w.heap.size ≤ q ∧ w.heap.size = q) := ⟨by omega, hq⟩
 rw [hq]
 clear hq hmk hs hE
 go_wp2_with fail
 refine (next_any S B 16 _ hs0 (by omega) (by omega) (by omega)).mono ?_
 rintro e w1 ⟨r, ⟨hr, hr2⟩, rfl, h1, s1⟩
 obtain ⟨n, rfl⟩ := Int.eq_ofNat_of_zero_le hr
 have hDW1 := hDW.stp h1
 clear hDW hs0 h1
 go_wp2_with fail
 go_loopg [22] n (fun gk i wr => ∃ (k : Nat) (vs zs : Array Value), i = .int .i64 k ∧ k ≤ n ∧ Hid (gk = n - k) ∧ DW G S q (5 * k) w wr vs zs ∧ Strm S (B + 1 + 15 * k) wr)
 case atStart => exact ⟨0, _, _, rfl, by omega, rfl, hDW1, by simpa using s1⟩
 case round =>
  clear hDW1 s1
  obtain ⟨k, vs, zs, rfl, hk, hgk, hDW, hs⟩ := hrel
  by_cases hlt : k < n
  ·
   go_wp2_with fail
   refine (next_any S (B + 1 + 15 * k) 3 _ hs (by omega) (by omega) (by omega)).mono ?_
   rintro e w1 ⟨r, ⟨hi0, hi3⟩, rfl, h1, s1⟩
   obtain ⟨i, rfl⟩ := Int.eq_ofNat_of_zero_le hi0
   have hD1 := hDW.stp h1
   clear hDW hs h1
   go_wp2_with fail
   refine (flip_any S (B + 1 + 15 * k + 1) 4 _ s1 (by omega) (by omega) (by omega)).mono ?_
   rintro e w2 ⟨r, rfl, h2, s2⟩
   have hD2 := hD1.stp h2
   clear hD1 s1 h2
   cases r
   ·
    go_wp2_with fail
    refine (happening_any S (B + 1 + 15 * k + 1 + 1) _ s2 (by omega)).mono ?_
    rintro e w3 ⟨kd, who, paper, wth, txt, rfl, hk0, hk8, hz1, hz2, hz3, hz4, h3, s3⟩
    have hD3 := hD2.stp h3
    clear hD2 s2 h3
    obtain ⟨z, cz, hz0, hzm⟩ := hD3.mom (i := i) (by omega)
    go_upto_region 13 with (fail)
    have hzl3 := hD3.size
    have hlt3 := hD3.lt
    go_cut [] (fun wx => ∃ zs', DW G S q (5 * (k : Int) + 5) w wx vs zs' ∧ Strm S (B + 1 + 15 * k + 13) wx)
    case first =>
     refine wp_regionF (S := (fun wx => wx.cell? ⟨q + 2, i, none⟩ = some (.int .i64 z))) 8 (by kernel_rfl) ?hS (fun hHeld => ?_)
     case hS => exact cz
     refine rtakeF (i := 0) (d := (some 65)) (v := ?_) (n := 40) rfl (by kernel_rfl) (by kernel_rfl) (by kernel_rfl) (by kernel_rfl) (by kernel_rfl) (by kernel_rfl) (fun _ _ _ h => h) (by kernel_rfl) (by assumption) ?_ ?_
     rotate_left 1
     ·
      (intro wI hSI; (try dsimp only at hSI); go_simp; (try with_reducible rfl))
     simp only [Act.put, lsetA, lsetZ, lsetS]
     refine rtakeF (i := 1) (d := (some 66)) (v := ?_) (n := 40) rfl (by kernel_rfl) (by kernel_rfl) (by kernel_rfl) (by kernel_rfl) (by kernel_rfl) (by kernel_rfl) (fun _ _ _ h => h) (by kernel_rfl) (by assumption) ?_ ?_
     rotate_left 1
     ·
      (intro wI hSI; (try dsimp only at hSI); go_simp; (try with_reducible rfl))
     simp only [Act.put, lsetA, lsetZ, lsetS]
     refine rtakeF (i := 2) (d := (some 67)) (v := ?_) (n := 40) rfl (by kernel_rfl) (by kernel_rfl) (by kernel_rfl) (by kernel_rfl) (by kernel_rfl) (by kernel_rfl) (fun _ _ _ h => h) (by kernel_rfl) (by assumption) ?_ ?_
     rotate_left 1
     ·
      (intro wI hSI; (try dsimp only at hSI); go_simp; (try with_reducible rfl))
     simp only [Act.put, lsetA, lsetZ, lsetS]
     refine rtakeF (i := 3) (d := (some 68)) (v := ?_) (n := 40) rfl (by kernel_rfl) (by kernel_rfl) (by kernel_rfl) (by kernel_rfl) (by kernel_rfl) (by kernel_rfl) (fun _ _ _ h => h) (by kernel_rfl) (by assumption) ?_ ?_
     rotate_left 1
     ·
      (intro wI hSI; (try dsimp only at hSI); go_simp; (try with_reducible rfl))
     simp only [Act.put, lsetA, lsetZ, lsetS]
     have hq6 := (Stp.refl S w3).drew.alloc (.cells #[.int .i64 0, .int .i64 1, .int .i64 5] 3)
     have sq6 := s3.drew.alloc (.cells #[.int .i64 0, .int .i64 1, .int .i64 5] 3)
     have HP := pick_box S (B + 1 + 15 * k + 1 + 1 + 10) w3.heap.size 3 3 [0, 1, 5] _ sq6 (by omega) (Box.newAt _ _ _ _ rfl) (by omega) (by simp) (by simp)
     refine rcallF (i := 4) (d := (some 69)) (by kernel_rfl) rfl (by kernel_rfl) (fun K hK => ?_)
     go_simp
     refine hK.out _ _ (.inr ?hS) (fun hHeld0 => ?_)
     case hS => exact cellKp (Kp.of_stp (X := fun j => j = S) hq6 rfl) (fun e => by omega) cz
     clear hK K
     have hHeld := hHeld0.resolve_left (by decide)
     simp only [Act.put, lsetA, lsetZ, lsetS]
     refine rcallF (i := 5) (d := (some 70)) (by kernel_rfl) rfl (by kernel_rfl) (fun K hK => ?_)
     go_simp
     go_at_call 14; refine HP.mono ?_; rintro e w4 ⟨p, hp, rfl, h6, s4⟩; have hq7 := hq6.trans h6; have hp2 : 0 ≤ p ∧ p ≤ 5 := by (simp only [List.mem_cons, List.not_mem_nil, or_false] at hp; omega)
     refine hK.out _ _ (.inr ?hS) (fun hHeld0 => ?_)
     case hS => exact cellKp (Kp.of_stp (X := fun j => j = S) hq7 rfl) (fun e => by omega) cz
     clear hK K
     have hHeld := hHeld0.resolve_left (by decide)
     simp only [Act.put, lsetA, lsetZ, lsetS]
     have hwz : IntKind.i64.wrap (z + p) = z + p := IntWalk.i64_in _ (by omega)
     have hfz := (hD3.stp hq7).moms.frozen i
     refine rtakeF (i := 6) (d := (some 71)) (v := ?_) (n := 40) rfl (by kernel_rfl) (by kernel_rfl) (by kernel_rfl) (by kernel_rfl) (by kernel_rfl) (by kernel_rfl) (fun _ _ _ h => h) (by kernel_rfl) (by assumption) ?_ ?_
     rotate_left 1
     ·
      (intro wI hSI; (try dsimp only at hSI); go_simp; (try with_reducible rfl))
     simp only [Act.put, lsetA, lsetZ, lsetS]
     refine rtakeF (i := 7) (d := (some 72)) (v := ?_) (n := 40) rfl (by kernel_rfl) (by kernel_rfl) (by kernel_rfl) (by kernel_rfl) (by kernel_rfl) (by kernel_rfl) (fun _ _ _ h => h) (by kernel_rfl) (by assumption) ?_ ?_
     rotate_left 1
     ·
      (intro wI hSI; (try dsimp only at hSI); go_simp; (try with_reducible rfl))
     simp only [Act.put, lsetA, lsetZ, lsetS]
     refine rcallF (i := 8) (d := none) (by kernel_rfl) rfl (by kernel_rfl) (fun K hK => ?_)
     go_simp
     refine hK.out undef _ (.inl rfl) (fun _ => ?_)
     clear hK K
     simp only [Act.put, lsetA, lsetZ, lsetS]
     refine wpAnyF_done (by kernel_rfl) ?_ _
     go_wp2_with fail
     go_meet
     exact ⟨_, ((hD3.stp hq7).mono (by omega)).putZ i (by omega) (by omega), (s4.setOther (by show S < q + 2; omega) _).mono (by omega)⟩
    case rest =>
     clear hD3 s3 cz hzl3 hlt3 hz0 hzm
     obtain ⟨zs', hD4, s4⟩ := hcut
     obtain ⟨l, a, c, cl, hsl, haf, had, hll, hok, hG1⟩ := hD4.list (i := i) (by omega)
     obtain ⟨dn, cn, hdn⟩ := hD4.name (i := i) (by omega)
     obtain ⟨z2, cz, hz0, hzm⟩ := hD4.mom (i := i) (by omega)
     have hzl4 := hD4.size
     have hAO := addedOf_any (q + 3) l a c dn z2 kd who paper wth txt
     have hok0 : EvOk (ev0 l dn z2 kd who paper wth txt) := ev0_ok (by omega) hok (by omega) (by omega) (by omega) (by omega) (by omega) (by omega) (by omega) (by omega) (by omega)
     have hhd : (ev0 l dn z2 kd who paper wth txt).after = headsL l := rfl
     replace hAO : Hid (∀ W, Below wc.heap.size wc W → Calls Tryz.prog 21 #[.slice a l.length c, .string dn, .int .i64 z2, .int .i64 kd, .string who, .string paper, .string wth, .string txt] W (AddRes (q + 3) l (ev0 l dn z2 kd who paper wth txt) W)) := fun W hb => hAO W (hD4.env.below hb) (by have := hb.size; omega) (hsl.below hb) haf (by omega) hok (had.mono (Nat.le_refl _) hb.size) hok0
     have HAd : Hid (∀ (W : World) (v : Value) (m : List Ev), NL (q + 3) 53 W v m → addErr l (ev0 l dn z2 kd who paper wth txt) = 0 → (∃ a c, m = sortE (l ++ [summed (ev0 l dn z2 kd who paper wth txt) a c])) → DeskL G (q + 3) W v) := fun W v m h he h2 => DeskL.added hG h he h2 hll hok hok0 hhd hG1
     generalize ev0 l dn z2 kd who paper wth txt = e0 at *
     clear hsl haf had hok hG1 hok0 hhd hz1 hz2 hz3 hz4 hdn
     go_upto_region 14 with (fail)
     refine wp_region_held_drew (S := (fun wx => (wx.cell? ⟨q + 1, i, none⟩ = some (.slice a l.length c) ∧ wx.cell? ⟨q, i, none⟩ = some (.string dn) ∧ wx.cell? ⟨q + 2, i, none⟩ = some (.int .i64 z2)) ∧ Below wc.heap.size wc wx)) (by kernel_rfl) ?hS (fun hHeld => ?_)
     case hS => exact ⟨⟨cl, cn, cz⟩, (Below.refl _ _).drew⟩
     refine rt 0 (some 74) ?_
     refine rt 1 (some 75) ?_
     refine rt 2 (some 76) ?_
     refine rt 3 (some 77) ?_
     refine rt 4 (some 78) ?_
     refine rt 5 (some 79) ?_
     refine rt 6 (some 80) ?_
     refine rt 7 (some 81) ?_
     refine rt 8 (some 82) ?_
     refine rt 9 (some 83) ?_
     refine rt 10 (some 84) ?_
     refine rt 11 (some 85) ?_
     refine rt 12 (some 86) ?_
     refine rt 13 (some 87) ?_
     refine rt 14 (some 88) ?_
     refine rt 15 (some 89) ?_
     refine rcall (i := 16) (d := (some 90)) (by kernel_rfl) rfl (by kernel_rfl) (fun K hK => ?_)
     go_simp
     go_at_call 21; refine (hAO.out _ hHeld.2).mono ?_; rintro e w5 ⟨v, m, rfl, hNL, hb5, hm0, hm1⟩; have hb45 := below_next hHeld.2 hb5
     refine hK.out _ _ ?hS (fun hHeld => ?_)
     case hS => exact ⟨⟨(Keeps3 hb5 hHeld.1).1, (Keeps3 hb5 hHeld.1).2.1, (Keeps3 hb5 hHeld.1).2.2⟩, hb45⟩
     clear hK K
     simp only [Act.put, lsetA, lsetZ, lsetS]
     refine rt 17 (some 73) ?_
     refine rt 18 (some 91) ?_
     refine rt 19 (some 92) ?_
     refine rt 20 (some 15) ?_
     refine rt 21 (some 16) ?_
     refine wpAnyH_done (by kernel_rfl) ?_ _
     have hD5 := hD4.below hb45
     have s5 := s4.below hb45
     have hv5 := fun h => HAd.out w5 v m hNL h (hm1 h)
     obtain ⟨a5, c5, rfl, -, -, -⟩ := hNL.1.form
     clear hHeld hb5 hb45 hD4 s4 cl cn cz hm0 hm1 HAd hAO
     have hfz5 := hD5.lists.frozen i
     obtain ⟨_, _, _, cl5, -⟩ := hD5.list (i := i) (by omega)
     generalize addErr l e0 = er at *
     by_cases he : er = 0
     ·
      subst he
      have hv6 := hv5 rfl
      go_wp2_with fail
      go_roundg (n - (k + 1))
      case measure => have := hgk.out; omega
      case rel => exact ⟨k + 1, _, _, by go_num, by omega, rfl, (hD5.putV i hv6).mono (by push_cast; omega), (s5.setOther (by have := hD5.lt; show S < q + 1; omega) _).mono (by push_cast; omega)⟩
     ·
      have he1 : (er == 0) = false := by simpa using he
      have he2 : (er != 0) = true := by simpa using he
      clear he
      go_wp2_with fail
      go_roundg (n - (k + 1))
      case measure => have := hgk.out; omega
      case rel => exact ⟨k + 1, _, _, by go_num, by omega, rfl, hD5.mono (by push_cast; omega), s5.mono (by push_cast; omega)⟩
   ·
    go_wp2_with fail
    refine (next_any S (B + 1 + 15 * k + 1 + 1) 3 _ s2 (by omega) (by omega) (by omega)).mono ?_
    rintro e w3 ⟨r, ⟨hj0, hj3⟩, rfl, h3, s3⟩
    obtain ⟨j, rfl⟩ := Int.eq_ofNat_of_zero_le hj0
    have hD3 := hD2.stp h3
    clear hD2 s2 h3
    obtain ⟨l, a, c, cl, hsl, haf, had, hll, hok, hG1⟩ := hD3.list (i := i) (by omega)
    obtain ⟨l2, a2, c2, cl2, hsl2, haf2, had2, hll2, hok2, hG2⟩ := hD3.list (i := j) (by omega)
    obtain ⟨z1, cz, hz0, hzm⟩ := hD3.mom (i := i) (by omega)
    obtain ⟨z2, cz2, hz20, hz2m⟩ := hD3.mom (i := j) (by omega)
    have hzl3 := hD3.size
    have HU : Hid (∀ W, Below w3.heap.size w3 W → Calls Tryz.prog 37 #[.slice a l.length c, .slice a2 l2.length c2] W (UniteRes (q + 3) l l2 W)) := fun W hb => unitedOf_any (q + 3) l l2 a a2 c c2 W (hD3.env.below hb) (by have := hb.size; omega) (hsl.below hb) (hsl2.below hb) (by omega) (by omega) hok hok2 (had.mono (Nat.le_refl _) hb.size) (had2.mono (Nat.le_refl _) hb.size)
    have HUd : Hid (∀ (W : World) (v : Value), NL (q + 3) 53 W v (uniteR l l2).2 → (uniteR l l2).1 = 0 → DeskL G (q + 3) W v) := fun W v h he => DeskL.united hG h he hok hok2 hG1 hG2
    clear hsl haf had hok hG1 hsl2 haf2 had2 hok2 hG2
    go_upto_region 9 with (fail)
    refine wp_region_held_drew (S := (fun wx => (wx.cell? ⟨q + 1, i, none⟩ = some (.slice a l.length c) ∧ wx.cell? ⟨q + 1, j, none⟩ = some (.slice a2 l2.length c2) ∧ wx.cell? ⟨q + 2, i, none⟩ = some (.int .i64 z1)) ∧ Below w3.heap.size w3 wx)) (by kernel_rfl) ?hS (fun hHeld => ?_)
    case hS => exact ⟨⟨cl, cl2, cz⟩, (Below.refl _ _).drew⟩
    refine rt 0 (some 31) ?_
    refine rt 1 (some 32) ?_
    refine rt 2 (some 33) ?_
    refine rt 3 (some 34) ?_
    refine rt 4 (some 35) ?_
    refine rt 5 (some 36) ?_
    refine rt 6 (some 37) ?_
    refine rt 7 (some 38) ?_
    refine rcall (i := 8) (d := (some 39)) (by kernel_rfl) rfl (by kernel_rfl) (fun K hK => ?_)
    go_simp
    go_at_call 37; refine (HU.out _ hHeld.2).mono ?_; rintro e w5 ⟨v, rfl, hNL, hb5⟩; have hb45 := below_next hHeld.2 hb5
    refine hK.out _ _ ?hS (fun hHeld => ?_)
    case hS => exact ⟨⟨(Keeps3 hb5 hHeld.1).1, (Keeps3 hb5 hHeld.1).2.1, (Keeps3 hb5 hHeld.1).2.2⟩, hb45⟩
    clear hK K
    simp only [Act.put, lsetA, lsetZ, lsetS]
    refine rt 9 (some 30) ?_
    refine rt 10 (some 40) ?_
    refine rt 11 (some 41) ?_
    refine rt 12 (some 8) ?_
    refine rt 13 (some 9) ?_
    refine wpAnyH_done (by kernel_rfl) ?_ _
    have hD5 := hD3.below hb45
    have s5 := s3.below hb45
    have hv5 := fun h => HUd.out w5 v hNL h
    have cz5 := (hb45.cell (World.block_lt_of_cell? _ _ cz)).trans cz
    have cz52 := (hb45.cell (World.block_lt_of_cell? _ _ cz2)).trans cz2
    obtain ⟨a5, c5, rfl, -, -, -⟩ := hNL.1.form
    clear hHeld hb5 hb45 hD3 s3 cl cl2 cz cz2 HUd HU
    have hfz5 := hD5.lists.frozen i
    have hfz6 := hD5.moms.frozen i
    generalize uniteR l l2 = ur at *
    obtain ⟨er, ul⟩ := ur
    simp only at hNL hv5
    by_cases he : er = 0
    ·
     subst he
     have hv6 := hv5 rfl
     clear hNL hv5
     go_upto_region 11 with (fail)
     refine wp_regionF (S := (fun wx => wx.cell? ⟨q + 2, i, none⟩ = some (.int .i64 z1) ∧ wx.cell? ⟨q + 2, j, none⟩ = some (.int .i64 z2))) 14 (by kernel_rfl) ?hS (fun hHeld => ?_)
     case hS => exact ⟨cz5, cz52⟩
     replace hD5 := hD5.below (Below.refl _ _).drew
     replace s5 := s5.drew
     replace hv6 := hv6.below (Below.refl _ _).drew
     clear hfz5 hfz6 cz5 cz52
     generalize w5.drew = w6 at *
     have hfz5 := hD5.lists.frozen i
     have hD6 := hD5.putV i hv6
     have hfz6 := hD6.moms.frozen i
     have s7 := s5.setOther (p := ⟨q + 1, i, none⟩) (by have := hD5.lt; show S < q + 1; omega) (.slice a5 ul.length c5)
     obtain ⟨_, _, _, cl5, -⟩ := hD5.list (i := i) (by omega)
     have cz6 : (w6.setCell ⟨q + 1, i, none⟩ (.slice a5 ul.length c5)).cell? ⟨q + 2, i, none⟩ = some (.int .i64 z1) := cellKp (X := fun j => j = q + 1) ((Kp.refl (fun j => j = q + 1) w6).setCell (p := ⟨q + 1, i, none⟩) (.inl rfl) _) (by omega) hHeld.1
     have cz62 : (w6.setCell ⟨q + 1, i, none⟩ (.slice a5 ul.length c5)).cell? ⟨q + 2, j, none⟩ = some (.int .i64 z2) := cellKp (X := fun j => j = q + 1) ((Kp.refl (fun j => j = q + 1) w6).setCell (p := ⟨q + 1, i, none⟩) (.inl rfl) _) (by omega) hHeld.2
     refine rtakeF (i := 0) (d := (some 44)) (v := ?_) (n := 40) rfl (by kernel_rfl) (by kernel_rfl) (by kernel_rfl) (by kernel_rfl) (by kernel_rfl) (by kernel_rfl) (fun _ _ _ h => h) (by kernel_rfl) (by assumption) ?_ ?_
     rotate_left 1
     ·
      (intro wI hSI; (try dsimp only at hSI); go_simp; (try with_reducible rfl))
     simp only [Act.put, lsetA, lsetZ, lsetS]
     refine rtakeF (i := 1) (d := (some 45)) (v := ?_) (n := 40) rfl (by kernel_rfl) (by kernel_rfl) (by kernel_rfl) (by kernel_rfl) (by kernel_rfl) (by kernel_rfl) (fun _ _ _ h => h) (by kernel_rfl) (by assumption) ?_ ?_
     rotate_left 1
     ·
      (intro wI hSI; (try dsimp only at hSI); go_simp; (try with_reducible rfl))
     simp only [Act.put, lsetA, lsetZ, lsetS]
     refine rtakeF (i := 3) (d := (some 47)) (v := ?_) (n := 40) rfl (by kernel_rfl) (by kernel_rfl) (by kernel_rfl) (by kernel_rfl) (by kernel_rfl) (by kernel_rfl) (fun _ _ _ h => h) (by kernel_rfl) (by assumption) ?_ ?_
     rotate_left 1
     ·
      (intro wI hSI; (try dsimp only at hSI); go_simp; (try with_reducible rfl))
     simp only [Act.put, lsetA, lsetZ, lsetS]
     refine rtakeF (i := 4) (d := (some 48)) (v := ?_) (n := 40) rfl (by kernel_rfl) (by kernel_rfl) (by kernel_rfl) (by kernel_rfl) (by kernel_rfl) (by kernel_rfl) (fun _ _ _ h => h) (by kernel_rfl) (by assumption) ?_ ?_
     rotate_left 1
     ·
      (intro wI hSI; (try dsimp only at hSI); go_simp; (try with_reducible rfl))
     simp only [Act.put, lsetA, lsetZ, lsetS]
     refine rtakeF (i := 5) (d := (some 49)) (v := ?_) (n := 40) rfl (by kernel_rfl) (by kernel_rfl) (by kernel_rfl) (by kernel_rfl) (by kernel_rfl) (by kernel_rfl) (fun _ _ _ h => h) (by kernel_rfl) (by assumption) ?_ ?_
     rotate_left 1
     ·
      (intro wI hSI; (try dsimp only at hSI); go_simp; (try with_reducible rfl))
     simp only [Act.put, lsetA, lsetZ, lsetS]
     refine rtakeF (i := 6) (d := (some 50)) (v := ?_) (n := 40) rfl (by kernel_rfl) (by kernel_rfl) (by kernel_rfl) (by kernel_rfl) (by kernel_rfl) (by kernel_rfl) (fun _ _ _ h => h) (by kernel_rfl) (by assumption) ?_ ?_
     rotate_left 1
     ·
      (intro wI hSI; (try dsimp only at hSI); go_simp; (try with_reducible rfl))
     simp only [Act.put, lsetA, lsetZ, lsetS]
     refine rtakeF (i := 7) (d := (some 51)) (v := ?_) (n := 40) rfl (by kernel_rfl) (by kernel_rfl) (by kernel_rfl) (by kernel_rfl) (by kernel_rfl) (by kernel_rfl) (fun _ _ _ h => h) (by kernel_rfl) (by assumption) ?_ ?_
     rotate_left 1
     ·
      (intro wI hSI; (try dsimp only at hSI); go_simp; (try with_reducible rfl))
     simp only [Act.put, lsetA, lsetZ, lsetS]
     refine rtakeF (i := 8) (d := (some 52)) (v := ?_) (n := 40) rfl (by kernel_rfl) (by kernel_rfl) (by kernel_rfl) (by kernel_rfl) (by kernel_rfl) (by kernel_rfl) (fun _ _ _ h => h) (by kernel_rfl) (by assumption) ?_ ?_
     rotate_left 1
     ·
      (intro wI hSI; (try dsimp only at hSI); go_simp; (try with_reducible rfl))
     simp only [Act.put, lsetA, lsetZ, lsetS]
     refine rtakeF (i := 9) (d := (some 53)) (v := ?_) (n := 40) rfl (by kernel_rfl) (by kernel_rfl) (by kernel_rfl) (by kernel_rfl) (by kernel_rfl) (by kernel_rfl) (fun _ _ _ h => h) (by kernel_rfl) (by assumption) ?_ ?_
     rotate_left 1
     ·
      (intro wI hSI; (try dsimp only at hSI); go_simp; (try with_reducible rfl))
     simp only [Act.put, lsetA, lsetZ, lsetS]
     refine rtakeF (i := 10) (d := (some 54)) (v := ?_) (n := 40) rfl (by kernel_rfl) (by kernel_rfl) (by kernel_rfl) (by kernel_rfl) (by kernel_rfl) (by kernel_rfl) (fun _ _ _ h => h) (by kernel_rfl) (by assumption) ?_ ?_
     rotate_left 1
     ·
      (intro wI hSI; (try dsimp only at hSI); go_simp; (try with_reducible rfl))
     simp only [Act.put, lsetA, lsetZ, lsetS]
     refine rtakeF (i := 11) (d := (some 55)) (v := ?_) (n := 40) rfl (by kernel_rfl) (by kernel_rfl) (by kernel_rfl) (by kernel_rfl) (by kernel_rfl) (by kernel_rfl) (fun _ _ _ h => h) (by kernel_rfl) (by assumption) ?_ ?_
     rotate_left 1
     ·
      (intro wI hSI; (try dsimp only at hSI); go_simp; (try with_reducible rfl))
     simp only [Act.put, lsetA, lsetZ, lsetS]
     refine rtakeF (i := 2) (d := (some 46)) (v := ?_) (n := 40) rfl (by kernel_rfl) (by kernel_rfl) (by kernel_rfl) (by kernel_rfl) (by kernel_rfl) (by kernel_rfl) (fun _ _ _ h => h) (by kernel_rfl) (by assumption) ?_ ?_
     rotate_left 1
     ·
      (intro wI hSI; (try dsimp only at hSI); go_simp; (try with_reducible rfl))
     simp only [Act.put, lsetA, lsetZ, lsetS]
     refine rcallF (i := 12) (d := none) (by kernel_rfl) rfl (by kernel_rfl) (fun K hK => ?_)
     go_simp
     refine hK.out undef _ (.inr ?hS) (fun hHeld0 => ?_)
     case hS => exact ⟨cz6, cz62⟩
     clear hK K hHeld
     have hHeld := hHeld0.resolve_left (by decide)
     simp only [Act.put, lsetA, lsetZ, lsetS]
     generalize w6.setCell ⟨q + 1, i, none⟩ (.slice a5 ul.length c5) = w7 at *
     refine rtakeF (i := 13) (d := (some 56)) (v := ?_) (n := 40) rfl (by kernel_rfl) (by kernel_rfl) (by kernel_rfl) (by kernel_rfl) (by kernel_rfl) (by kernel_rfl) (fun _ _ _ h => h) (by kernel_rfl) (by assumption) ?_ ?_
     rotate_left 1
     ·
      (intro wI hSI; (try dsimp only at hSI); go_simp; (try with_reducible rfl))
     simp only [Act.put, lsetA, lsetZ, lsetS]
     refine rcallF (i := 14) (d := none) (by kernel_rfl) rfl (by kernel_rfl) (fun K hK => ?_)
     go_simp
     refine hK.out undef _ (.inl rfl) (fun _ => ?_)
     clear hK K
     simp only [Act.put, lsetA, lsetZ, lsetS]
     refine wpAnyF_done (by kernel_rfl) ?_ _
     have hmx : 0 ≤ max z1 z2 ∧ max z1 z2 ≤ 5 * (k : Int) := by omega
     go_wp2_with fail
     go_roundg (n - (k + 1))
     case measure => have := hgk.out; omega
     case rel => exact ⟨k + 1, _, _, by go_num, by omega, rfl, (hD6.putZ i hmx.1 hmx.2).mono (by push_cast; omega), (s7.setOther (by have := hD6.lt; show S < q + 2; omega) _).mono (by push_cast; omega)⟩
    ·
     have he1 : (er == 0) = false := by simpa using he
     have he2 : (er != 0) = true := by simpa using he
     clear he
     go_wp2_with fail
     go_roundg (n - (k + 1))
     case measure => have := hgk.out; omega
     case rel => exact ⟨k + 1, _, _, by go_num, by omega, rfl, hD5.mono (by push_cast; omega), s5.mono (by push_cast; omega)⟩
  ·
   obtain rfl : k = n := by omega
   have hD5 := hDW
   have hq := HW0.out
   go_wp2_with fail
   go_ret
   exact ⟨q + 1, vs, rfl, by omega, hDW.lists, hDW.three.1, hDW.three.2.2.1, hDW.st, hs.mono (by omega)⟩
end Go.Proofs.YtnocceilpnmbpaaGreatDoor
