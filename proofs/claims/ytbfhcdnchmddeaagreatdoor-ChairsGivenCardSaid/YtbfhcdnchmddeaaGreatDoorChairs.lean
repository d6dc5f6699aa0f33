/- Chairs of the program, ChairsOf of the reference. -/
import Derived.Test.YtbfhcdnchmddeaaGreatDoorChrC
import Derived.Test.YtbfhcdnchmddeaaGreatDoorCost
import Derived.Test.YtbfhcdnchmddeaaGreatDoorMtc
import Derived.Test.YtbfhcdnchmddeaaGreatDoorAble
import Derived.Test.YtbfhcdnchmddeaaGreatDoorReg
import Derived.Test.YtbfhcdnchmddeaaGreatDoorRegP
namespace Go.Proofs.YtbfhcdnchmddeaaGreatDoor
open Go.RowKit
set_option linter.unusedVariables false
set_option linter.unusedSimpArgs false

theorem infoChd : (Tryz.prog.info? 48).map (fun i => (i.zero, i.size, i.bytes)) = some (some (.agg #[.string ⟨#[]⟩, .string ⟨#[]⟩, .string ⟨#[]⟩]), 3, 48) := by kernel_rfl
theorem infoIntC : (Tryz.prog.info? 3).map (fun i => (i.zero, i.size, i.bytes)) = some (some (.int .i64 0), 1, 8) := by kernel_rfl
theorem infoIntL : (Tryz.prog.info? 22).map (fun i => (i.zero, i.size, i.bytes)) = some (some (.slice none 0 0), 1, 24) := by kernel_rfl
/-- A list, or an error. -/
def ErrRes {α : Type} [Cel α] (T : TypeId) (er : Int) (l : List α) (w : World) (e : Ending) (w' : World) : Prop :=
 Below w.heap.size w w' ∧ ((er ≠ 0 ∧ e = .returned (.tuple #[.slice none 0 0, .int .i64 er])) ∨ (er = 0 ∧ ∃ v, e = .returned (.tuple #[v, .int .i64 0]) ∧ Own w.heap.size T w' v l))
def chErr (g : Grd) (p : List Ses) (l : List Wsh) : Int := if bothF g p ≠ 0 then bothF g p else chairsF l
/-- The chairs that are given. -/
def chairsL (g : Grd) (p : List Ses) (l : List Wsh) (mst : (Nat → Bool) → Nat → Nat) : List Chd := (chTo (canN g p l) l.length mst p.length).2.2.map (chdOf p l)
/-- What the four rows and the match are, wherever they lie. -/
def MadeAt (w1 : World) (nc ns : Nat) (v : Value) (wx : World) : Prop :=
 ∃ C T U D M, v = .pointer (some ⟨M, 0, none⟩) ∧ Box wx C 22 (Array.replicate nc (.slice none 0 0)) ∧ Box wx T 3 (Array.replicate ns (.int .i64 0)) ∧ Box wx U 4 (Array.replicate nc (.bool false)) ∧ Box wx D 4 (Array.replicate ns (.bool false)) ∧
  Box wx M 98 #[.slice (some ⟨C, 0, none⟩) nc nc, .slice (some ⟨T, 0, none⟩) ns ns, .slice (some ⟨U, 0, none⟩) nc nc, .slice (some ⟨D, 0, none⟩) ns ns] ∧
  (w1.heap.size ≤ C ∧ w1.heap.size ≤ T ∧ w1.heap.size ≤ U ∧ w1.heap.size ≤ D ∧ w1.heap.size ≤ M) ∧ (C ≠ T ∧ C ≠ U ∧ C ≠ D ∧ C ≠ M ∧ T ≠ U ∧ T ≠ D ∧ T ≠ M ∧ U ≠ D ∧ U ≠ M ∧ D ≠ M) ∧ Below w1.heap.size w1 wx
def mkN (nc ns m : Nat) : Nat := if m = 2 then nc else if m = 8 then nc else ns
def mkT (m : Nat) : TypeId := if m = 2 then 22 else if m = 5 then 3 else 4
def mkV (m : Nat) : Value := if m = 2 then .slice none 0 0 else if m = 5 then .int .i64 0 else .bool false
def mkF (n0 nc ns m : Nat) (v : Value) (wx : World) : Prop := ∃ b, v = .slice (some ⟨b, 0, none⟩) (mkN nc ns m) (mkN nc ns m) ∧ Box wx b (mkT m) (Array.replicate (mkN nc ns m) (mkV m)) ∧ n0 ≤ b
def mkPr (u v : Value) : Prop := ∀ a b n m, u = .slice (some ⟨a, 0, none⟩) n n → v = .slice (some ⟨b, 0, none⟩) m m → a ≠ b
theorem mkF.stab {n0 nc ns m : Nat} {v : Value} {w w' : World} (h : mkF n0 nc ns m v w) (k : Below w.heap.size w w') : mkF n0 nc ns m v w' := by
 obtain ⟨b, h1, h2, h3⟩ := h
 exact ⟨b, h1, h2.below k, h3⟩
theorem mkF_apart {n0 nc ns j n : Nat} {u : Value} {w : World} (h : mkF n0 nc ns j u w) : mkPr u (.slice (some ⟨w.heap.size, 0, none⟩) n n) ∧ mkPr (.slice (some ⟨w.heap.size, 0, none⟩) n n) u := by
 obtain ⟨c, rfl, h2, -⟩ := h
 have hl := h2.lt
 constructor
 ·
  intro a b n' m' e1 e2
  simp only [Value.slice.injEq, Option.some.injEq, Addr.mk.injEq] at e1 e2
  omega
 ·
  intro a b n' m' e1 e2
  simp only [Value.slice.injEq, Option.some.injEq, Addr.mk.injEq] at e1 e2
  omega
theorem Able.start (wc : World) (C T U D M nc ns : Nat) (hC : Box wc C 22 (Array.replicate nc (.slice none 0 0))) (hT : Box wc T 3 (Array.replicate ns (.int .i64 0))) (hU : Box wc U 4 (Array.replicate nc (.bool false))) (hD : Box wc D 4 (Array.replicate ns (.bool false)))
  (hM : Box wc M 98 #[.slice (some ⟨C, 0, none⟩) nc nc, .slice (some ⟨T, 0, none⟩) ns ns, .slice (some ⟨U, 0, none⟩) nc nc, .slice (some ⟨D, 0, none⟩) ns ns]) (hn : C ≠ T ∧ C ≠ U ∧ C ≠ D ∧ C ≠ M ∧ T ≠ U ∧ T ≠ D ∧ T ≠ M ∧ U ≠ D ∧ U ≠ M ∧ D ≠ M) :
  Able (wc.heap.size + 1) M C T U D wc.heap.size nc ns (fun _ => .slice none 0 0) (fun _ => []) (fun _ => .slice none 0 0) (fun _ => []) (wc.alloc (.cells (Array.replicate ns (.slice none 0 0)) 22)) := by
 have a1 := hC.lt
 have a2 := hT.lt
 have a3 := hU.lt
 have a4 := hD.lt
 have a5 := hM.lt
 obtain ⟨n1, n2, n3, n4, n5, n6, n7, n8, n9, n10⟩ := hn
 have hA := Box.new wc 22 (Array.replicate ns (.slice none 0 0))
 have e1 := cellsF_rep id (Value.slice none 0 0)
 have e2 := cellsF_rep Value.bool false
 refine ⟨⟨by rw [e1]; exact hC.alloc _, fun i _ => Own.nil _ _ _, fun i j _ _ _ x hx => (by cases hx), by omega⟩, ⟨by rw [e1]; exact hA, fun i _ => Own.nil _ _ _, fun i j _ _ _ x hx => (by cases hx), by omega⟩, fun i j _ _ x hx => (by cases hx), hM.alloc _, hT.alloc _, by rw [e2]; exact hU.alloc _, by rw [e2]; exact hD.alloc _, ⟨by omega, by omega, by omega, by omega⟩, ⟨n1, n2, n3, n4, by omega, by omega, by omega, by omega, by omega⟩⟩
set_option maxRecDepth 100000 in
set_option maxHeartbeats 16000000 in
theorem chairs_any (g : Grd) (p : List Ses) (pa : Option Addr) (pc : Nat) (l : List Wsh) (la : Option Addr) (lc : Nat) (mst : (Nat → Bool) → Nat → Nat) (hmst : IsMost (canN g p l) l.length p.length mst) (w : World) (hg : GRd w g) (hz : GSm g) (hp : PRg w pa p) (hpl : p.length ≤ 1000) (hpo : ∀ s ∈ p, SesOk s) (hpc : p.length ≤ pc) (hl : SA w la l) (hll : l.length ≤ 1000) (hlo : ∀ x ∈ l, WshOk x) (hlr : ∀ x ∈ l, SA w x.a1 x.papers) :
  Calls Tryz.prog 10 #[g.agg, .slice pa p.length pc, .slice la l.length lc] w (ErrRes 48 (chErr g p l) (chairsL g p l mst) w) := by
 have HCK := Lib.hid (fun W (h : Below w.heap.size w W) => checkedP_any g p pa pc W (hg.below h) hz (hp.below h) (by omega) hpo hpc)
 have HCF := Lib.hid (fun W (h : Below w.heap.size w W) => chairsP_any l la lc W (hl.below h) hll hlo (fun x hx => (hlr x hx).below h))
 have HCAN : Hid (bothF g p = 0 → ∀ fb br bs bt bb W0 W, FieldAt g fb br bs bt bb W0 → Below w.heap.size w W0 → Below W0.heap.size W0 W → ∀ s ∈ p, ∀ c ∈ l, Calls Tryz.prog 50 #[.pointer (some ⟨fb, 0, none⟩), .slice pa p.length pc, s.agg, c.aggC] W (Gives (.bool (canB g p s c)) W)) := fun h0 fb br bs bt bb W0 W hF h1 h2 s hs c hc =>
  can_any g fb br bs bt bb p pa pc s c W (hF.below h2) (hg.below (below_next h1 h2)) hz (both_nd h0) (hp.below (below_next h1 h2)) (by omega) (fun s hs => (hpo s hs).2.2.1) (both_form h0) hs ((hlr c hc).below (below_next h1 h2)) (by have := (hlo c hc).2.1; omega)
 have HP := Lib.hid (fun W (h : Below w.heap.size w W) => (hp.below h).list)
 have HL := Lib.hid (fun W (h : Below w.heap.size w W) => hl.below h)
 have HE : Hid (chErr g p l = if bothF g p ≠ 0 then bothF g p else chairsF l) := rfl
 have HCB := Lib.hid (fun s c (hs : s < p.length) (hc : c < l.length) => canN_at g hs hc)
 have HX : Hid (chairsL g p l mst = (chTo (canN g p l) l.length mst p.length).2.2.map (chdOf p l)) := rfl
 generalize chErr g p l = E at *
 generalize chairsL g p l mst = R at *
 generalize canN g p l = can at *
 have hX0 := Box.new w 32 #[.slice g.ra g.rooms.length g.rc, .slice g.sa g.slots.length g.sc, .slice g.ta g.talks.length g.tc, .slice g.wa g.wishes.length g.wc, .slice g.ba g.bans.length g.bc]
 have hb0 : Below w.heap.size w (w.alloc (.cells #[.slice g.ra g.rooms.length g.rc, .slice g.sa g.slots.length g.sc, .slice g.ta g.talks.length g.tc, .slice g.wa g.wishes.length g.wc, .slice g.ba g.bans.length g.bc] 32)) := (Below.refl _ _).alloc (Nat.le_refl _) _
 clear hg hz hp hpo hl hlo hlr
 rw [Grd.agg_eq] at *
 unfold CheckedRes at HCK
 unfold ErrRes
 have hmkL := run_make_len (P := Tryz.prog) 95 22 (.slice none 0 0) 24 (by kernel_rfl) infoIntL rfl
 have hmkI := run_make_len (P := Tryz.prog) 22 3 (.int .i64 0) 8 (by kernel_rfl) infoIntC rfl
 have hmkB := run_make_len (P := Tryz.prog) 96 4 (.bool false) 1 (by kernel_rfl) infoBoolR rfl
 go_enter Tryz.func10, Tryz.ntmps10
 have hX0_l := hX0.lt; have hX0_0 := hX0.cell 0; have hX0_1 := hX0.cell 1; have hX0_2 := hX0.cell 2; have hX0_3 := hX0.cell 3; have hX0_4 := hX0.cell 4; simp at hX0_0 hX0_1 hX0_2 hX0_3 hX0_4
 go_wp2_with fail
 clear hX0_l hX0_0 hX0_1 hX0_2 hX0_3 hX0_4
 refine (HCK.out _ hb0).mono ?_
 rintro e w1 ⟨hb1, hc⟩
 have hb1' := below_next hb0 hb1
 clear HCK hX0
 by_cases h0 : bothF g p = 0
 ·
  obtain ⟨-, fb, br, bs, bt, bb, rfl, hF, hfb⟩ := hc.resolve_left (fun h => h.1 h0)
  have HCN := Lib.hid (fun W (h : Below w1.heap.size w1 W) s hs c hc => HCAN.out h0 fb br bs bt bb w1 W hF hb1' h s hs c hc)
  rw [if_neg (fun h => h h0)] at HE
  clear hc HCAN hF h0 hfb
  go_wp2_with fail
  refine (HCF.out _ hb1').mono ?_
  rintro e w2 ⟨rfl, hb2⟩
  have hb2' := below_next hb1' hb2
  have HCN2 := Lib.hid (fun W (h : Below w2.heap.size w2 W) s hs c hc => HCN.out W (below_next hb2 h) s hs c hc)
  clear HCF HCN hb1 hb1' hb2 hb0
  generalize chairsF l = F at *
  by_cases hf : F = 0
  ·
   subst hf
   have mk1 := hmkL l.length (by omega) (by omega)
   have mk2 := hmkI p.length (by omega) (by omega)
   have mk3 := hmkB l.length (by omega) (by omega)
   have mk4 := hmkB p.length (by omega) (by omega)
   have mk5 := hmkL p.length (by omega) (by omega)
   clear hmkL hmkI hmkB
   go_upto_region 7 with (fail)
   go_cut [11] (fun v wx => MadeAt w2 l.length p.length v wx)
   case first =>
    clear HP HL HCB HX HCN2 HE mk5 hmst
    have Hmk1 := Lib.hid mk1
    have Hmk2 := Lib.hid mk2
    have Hmk3 := Lib.hid mk3
    have Hmk4 := Lib.hid mk4
    clear mk1 mk2 mk3 mk4
    refine wp_regionF (S := (fun wx => True)) 14 (by kernel_rfl) ?hS (fun hHeld => ?_)
    case hS => exact True.intro
    refine rtakeF (i := 0) (d := (some 37)) (v := ?_) (n := 40) rfl (by kernel_rfl) (by kernel_rfl) (by kernel_rfl) (by kernel_rfl) (by kernel_rfl) (by kernel_rfl) (fun _ _ _ h => h) (by kernel_rfl) (by assumption) ?_ ?_
    rotate_left 1
    ·
     (intro wI hSI; (try dsimp only at hSI); go_simp; (try with_reducible rfl))
    simp only [Act.put, lsetA, lsetZ, lsetS]
    refine rtakeF (i := 1) (d := (some 38)) (v := ?_) (n := 40) rfl (by kernel_rfl) (by kernel_rfl) (by kernel_rfl) (by kernel_rfl) (by kernel_rfl) (by kernel_rfl) (fun _ _ _ h => h) (by kernel_rfl) (by assumption) ?_ ?_
    rotate_left 1
    ·
     (intro wI hSI; (try dsimp only at hSI); go_simp; (try with_reducible rfl))
    simp only [Act.put, lsetA, lsetZ, lsetS]
    refine rtakeF (i := 3) (d := (some 40)) (v := ?_) (n := 40) rfl (by kernel_rfl) (by kernel_rfl) (by kernel_rfl) (by kernel_rfl) (by kernel_rfl) (by kernel_rfl) (fun _ _ _ h => h) (by kernel_rfl) (by assumption) ?_ ?_
    rotate_left 1
    ·
     (intro wI hSI; (try dsimp only at hSI); go_simp; (try with_reducible rfl))
    simp only [Act.put, lsetA, lsetZ, lsetS]
    refine rtakeF (i := 4) (d := (some 41)) (v := ?_) (n := 40) rfl (by kernel_rfl) (by kernel_rfl) (by kernel_rfl) (by kernel_rfl) (by kernel_rfl) (by kernel_rfl) (fun _ _ _ h => h) (by kernel_rfl) (by assumption) ?_ ?_
    rotate_left 1
    ·
     (intro wI hSI; (try dsimp only at hSI); go_simp; (try with_reducible rfl))
    simp only [Act.put, lsetA, lsetZ, lsetS]
    refine rtakeF (i := 6) (d := (some 43)) (v := ?_) (n := 40) rfl (by kernel_rfl) (by kernel_rfl) (by kernel_rfl) (by kernel_rfl) (by kernel_rfl) (by kernel_rfl) (fun _ _ _ h => h) (by kernel_rfl) (by assumption) ?_ ?_
    rotate_left 1
    ·
     (intro wI hSI; (try dsimp only at hSI); go_simp; (try with_reducible rfl))
    simp only [Act.put, lsetA, lsetZ, lsetS]
    refine rtakeF (i := 7) (d := (some 44)) (v := ?_) (n := 40) rfl (by kernel_rfl) (by kernel_rfl) (by kernel_rfl) (by kernel_rfl) (by kernel_rfl) (by kernel_rfl) (fun _ _ _ h => h) (by kernel_rfl) (by assumption) ?_ ?_
    rotate_left 1
    ·
     (intro wI hSI; (try dsimp only at hSI); go_simp; (try with_reducible rfl))
    simp only [Act.put, lsetA, lsetZ, lsetS]
    refine rtakeF (i := 9) (d := (some 46)) (v := ?_) (n := 40) rfl (by kernel_rfl) (by kernel_rfl) (by kernel_rfl) (by kernel_rfl) (by kernel_rfl) (by kernel_rfl) (fun _ _ _ h => h) (by kernel_rfl) (by assumption) ?_ ?_
    rotate_left 1
    ·
     (intro wI hSI; (try dsimp only at hSI); go_simp; (try with_reducible rfl))
    simp only [Act.put, lsetA, lsetZ, lsetS]
    refine rtakeF (i := 10) (d := (some 47)) (v := ?_) (n := 40) rfl (by kernel_rfl) (by kernel_rfl) (by kernel_rfl) (by kernel_rfl) (by kernel_rfl) (by kernel_rfl) (fun _ _ _ h => h) (by kernel_rfl) (by assumption) ?_ ?_
    rotate_left 1
    ·
     (intro wI hSI; (try dsimp only at hSI); go_simp; (try with_reducible rfl))
    simp only [Act.put, lsetA, lsetZ, lsetS]
    show wpAnyF _ _ _ _ _ _ (3 + ([2, 5, 8, 11] : List Nat).length) _ _ _
    refine wpAnyF_phaseBP mkPr [2, 5, 8, 11] (fun m => m + 37) (fun _ => 0) (mkF w2.heap.size l.length p.length) (fun t wx => Below w2.heap.size w2 wx) (fun w w' => Below w.heap.size w w') _ _ 40 3 _ (by decide) (by intro i _ j _ h; omega) (fun i hi => by have h : i ≤ 11 := (by simp at hi; omega); show i + 37 < 171; omega) (by kernel_rfl) (by kernel_rfl) (by kernel_rfl) (by kernel_rfl) (fun j v w w' hx h => h.stab hx) (fun m => Int.le_refl 0) ?hop ?hend (by kernel_rfl) (Below.refl _ _).drew hHeld
    case hop =>
     intro i hi o ho a wx t K' htc hSw hG hfr hp hK
     have Hfr := Lib.hid hfr
     have hsz := hG.size
     clear hfr hp htc
     simp only [List.mem_cons, List.not_mem_nil, or_false] at hi
     rcases hi with rfl | rfl | rfl | rfl
     all_goals obtain rfl := Option.some.inj ho
     all_goals clear ho
     ·
      have e1 : a.tmps.getD 38 undef = .int .i64 (l.length : Nat) := (Hfr.out 38 (by decide)).trans rfl
      have e1' := e1
      simp only [Array.getD_eq_getD_getElem?] at e1'
      have hm := Hmk1.out wx
      go_simp
      exact hK.out _ _ ((Below.refl _ _).alloc (Nat.le_refl _) _) True.intro ⟨_, rfl, Box.new _ _ _, hsz⟩ (hG.alloc hsz _) (fun j u h => mkF_apart h)
     ·
      have e1 : a.tmps.getD 41 undef = .int .i64 (p.length : Nat) := (Hfr.out 41 (by decide)).trans rfl
      have e1' := e1
      simp only [Array.getD_eq_getD_getElem?] at e1'
      have hm := Hmk2.out wx
      go_simp
      exact hK.out _ _ ((Below.refl _ _).alloc (Nat.le_refl _) _) True.intro ⟨_, rfl, Box.new _ _ _, hsz⟩ (hG.alloc hsz _) (fun j u h => mkF_apart h)
     ·
      have e1 : a.tmps.getD 44 undef = .int .i64 (l.length : Nat) := (Hfr.out 44 (by decide)).trans rfl
      have e1' := e1
      simp only [Array.getD_eq_getD_getElem?] at e1'
      have hm := Hmk3.out wx
      go_simp
      exact hK.out _ _ ((Below.refl _ _).alloc (Nat.le_refl _) _) True.intro ⟨_, rfl, Box.new _ _ _, hsz⟩ (hG.alloc hsz _) (fun j u h => mkF_apart h)
     ·
      have e1 : a.tmps.getD 47 undef = .int .i64 (p.length : Nat) := (Hfr.out 47 (by decide)).trans rfl
      have e1' := e1
      simp only [Array.getD_eq_getD_getElem?] at e1'
      have hm := Hmk4.out wx
      go_simp
      exact hK.out _ _ ((Below.refl _ _).alloc (Nat.le_refl _) _) True.intro ⟨_, rfl, Box.new _ _ _, hsz⟩ (hG.alloc hsz _) (fun j u h => mkF_apart h)
    case hend =>
     intro v wx hv hpr hG hSw
     obtain ⟨C, e2, hC, hCl⟩ := hv 2 (by decide)
     obtain ⟨T, e5, hT, hTl⟩ := hv 5 (by decide)
     obtain ⟨U, e8, hU, hUl⟩ := hv 8 (by decide)
     obtain ⟨D, e11, hD, hDl⟩ := hv 11 (by decide)
     have n1 := hpr 2 (by decide) 5 (by decide) (by decide) _ _ _ _ e2 e5
     have n2 := hpr 2 (by decide) 8 (by decide) (by decide) _ _ _ _ e2 e8
     have n3 := hpr 2 (by decide) 11 (by decide) (by decide) _ _ _ _ e2 e11
     have n4 := hpr 5 (by decide) 8 (by decide) (by decide) _ _ _ _ e5 e8
     have n5 := hpr 5 (by decide) 11 (by decide) (by decide) _ _ _ _ e5 e11
     have n6 := hpr 8 (by decide) 11 (by decide) (by decide) _ _ _ _ e8 e11
     have hsz := hG.size
     simp only [List.foldl, Act.put, List.setIfInBounds_toArray, Nat.reduceAdd, List.set_cons_zero, List.set_cons_succ, e2, e5, e8, e11]
     clear e2 e5 e8 e11 hv hpr
     have hHeld := hSw
     refine rcallF (i := 12) (d := (some 49)) (by kernel_rfl) rfl (by kernel_rfl) (fun K hK => ?_)
     go_simp
     refine hK.out _ _ (.inr ?hS) (fun hHeld0 => ?_)
     case hS => exact True.intro
     clear hK K
     have hHeld := hHeld0.resolve_left (by decide)
     simp only [Act.put, lsetA, lsetZ, lsetS]
     refine rcallF (i := 13) (d := (some 50)) (by kernel_rfl) rfl (by kernel_rfl) (fun K hK => ?_)
     go_simp
     refine hK.out _ _ (.inr ?hS) (fun hHeld0 => ?_)
     case hS => exact True.intro
     clear hK K
     have hHeld := hHeld0.resolve_left (by decide)
     simp only [Act.put, lsetA, lsetZ, lsetS]
     refine rcallF (i := 14) (d := (some 11)) (by kernel_rfl) rfl (by kernel_rfl) (fun K hK => ?_)
     go_simp
     refine hK.out _ _ (.inl rfl) (fun _ => ?_)
     clear hK K
     simp only [Act.put, lsetA, lsetZ, lsetS]
     refine wpAnyF_done (by kernel_rfl) ?_ _
     have hM := Box.new wx 98 #[.slice (some ⟨C, 0, none⟩) l.length l.length, .slice (some ⟨T, 0, none⟩) p.length p.length, .slice (some ⟨U, 0, none⟩) l.length l.length, .slice (some ⟨D, 0, none⟩) p.length p.length]
     have c1 := hC.lt
     have c2 := hT.lt
     have c3 := hU.lt
     have c4 := hD.lt
     have HFN := Lib.hid (show MadeAt w2 l.length p.length (.pointer (some ⟨wx.heap.size, 0, none⟩)) (wx.alloc (.cells #[.slice (some ⟨C, 0, none⟩) l.length l.length, .slice (some ⟨T, 0, none⟩) p.length p.length, .slice (some ⟨U, 0, none⟩) l.length l.length, .slice (some ⟨D, 0, none⟩) p.length p.length] 98)) from
      ⟨C, T, U, D, wx.heap.size, rfl, hC.alloc _, hT.alloc _, hU.alloc _, hD.alloc _, hM, ⟨hCl, hTl, hUl, hDl, hsz⟩, ⟨n1, n2, n3, by omega, n4, n5, by omega, n6, by omega, by omega⟩, hG.alloc hsz _⟩)
     clear hHeld hC hT hU hD hM n1 n2 n3 n4 n5 n6 hCl hTl hUl hDl hG
     go_wp2_with fail
     go_meet
     exact HFN.out
   case rest =>
    obtain ⟨C, T, U, D, M, rfl, hC, hT, hU, hD, hM, ⟨lC, lT, lU, lD, lM⟩, ⟨n1, n2, n3, n4, n5, n6, n7, n8, n9, n10⟩, hbm⟩ := hcut
    have hAb := Able.start wc C T U D M l.length p.length hC hT hU hD hM ⟨n1, n2, n3, n4, n5, n6, n7, n8, n9, n10⟩
    have hbA : Below w2.heap.size w2 (wc.alloc (.cells (Array.replicate p.length (.slice none 0 0)) 22)) := hbm.alloc hbm.size _
    have hbs : wc.heap.size + 1 ≤ (wc.alloc (.cells (Array.replicate p.length (.slice none 0 0)) 22)).heap.size := by simp
    have hAl : w2.heap.size ≤ wc.heap.size := hbm.size
    have HN : Hid (U ≠ D ∧ U ≠ M ∧ D ≠ M ∧ T ≠ M ∧ T ≠ U ∧ T ≠ D) := ⟨n8, n9, n10, n7, n5, n6⟩
    clear hC hT hU hD hM hbm mk1 mk2 mk3 mk4 n1 n2 n3 n4 n5 n6 n7 n8 n9 n10
    go_wp2_with fail
    clear mk5
    generalize wc.alloc (.cells (Array.replicate p.length (.slice none 0 0)) 22) = wA at *
    generalize hbase : wc.heap.size + 1 = base at *
    have hA2 : w2.heap.size < base := by omega
    clear hbase
    generalize wc.heap.size = A at *
    go_loopg [56] p.length (fun gk iv wr => ∃ (k : Nat) (hvC : Nat → Value) (rC : Nat → List Nat) (hvA : Nat → Value) (rA : Nat → List Nat), iv = .int .i64 k ∧ k ≤ p.length ∧ Hid (gk = p.length - k) ∧ Able base M C T U D A l.length p.length hvC rC hvA rA wr ∧ Hid (EqC can l.length k 0 rC) ∧ Hid (EqA can l.length p.length k 0 rA) ∧ Below w2.heap.size w2 wr ∧ base ≤ wr.heap.size)
    case atStart => exact ⟨0, _, _, _, _, rfl, by omega, rfl, hAb, (fun c hc => by rw [if_neg (by omega)]; rfl), (fun s hs => by rw [if_neg (by omega)]; split <;> rfl), hbA, hbs⟩
    case round =>
     clear hAb hbA hbs
     obtain ⟨k, hvC, rC, hvA, rA, rfl, hk, hgk, hAb, hqC, hqA, hb, hbs⟩ := hrel
     have hbw := below_next hb2' hb
     by_cases hlt : k < p.length
     ·
      obtain ⟨sb, so, ha, c0, c1, c2⟩ := (HP.out _ hbw).sesC hlt
      have hxm : p[k] ∈ p := List.getElem_mem hlt
      have HCK2 := Lib.hid (fun W (h : Below w2.heap.size w2 W) c hc => HCN2.out W h p[k] hxm c hc)
      have HCB2 := Lib.hid (fun c hc => HCB.out k c hlt hc)
      have Ha := Lib.hid ha
      rw [ha]
      clear ha hxm hbw
      generalize p[k] = x at *
      obtain ⟨s1, s2, s3, s4, s5⟩ := x
      unfold Ses.agg at HCK2
      simp only at c0 c1 c2 HCK2
      go_upto_region 12 with (fail)
      have hS := Box.new wr 86 #[.string s1, .string s2, .slice s4 s3.length s5]
      have hbS : Below wr.heap.size wr (wr.alloc (.cells #[.string s1, .string s2, .slice s4 s3.length s5] 86)) := (Below.refl _ _).alloc (Nat.le_refl _) _
      have hAb1 := hAb.below hbS
      have hb1 := below_next hb hbS
      have hbs1 := Nat.le_trans hbs hbS.size
      have hfC : Hid (∀ i, i < l.length → ∀ x, (hvC i).ownBlock = some x → x ≠ wr.heap.size) := fun i hi x hx => by have := ((hAb.rc.own i hi).lt x hx).2; omega
      have hfA : Hid (∀ i, i < p.length → ∀ x, (hvA i).ownBlock = some x → x ≠ wr.heap.size) := fun i hi x hx => by have := ((hAb.ra.own i hi).lt x hx).2; omega
      have hSb : base ≤ wr.heap.size := hbs
      clear hAb hb hbs hbS c0 c1 c2
      generalize wr.alloc (.cells #[.string s1, .string s2, .slice s4 s3.length s5] 86) = wS at *
      generalize wr.heap.size = bS at *
      go_wp2_with fail
      go_loopg [63] l.length (fun gj jv wq => ∃ (j : Nat) (hvC : Nat → Value) (rC : Nat → List Nat) (hvA : Nat → Value) (rA : Nat → List Nat), jv = .int .i64 j ∧ j ≤ l.length ∧ Hid (gj = l.length - j) ∧ Able base M C T U D A l.length p.length hvC rC hvA rA wq ∧ Hid (EqC can l.length k j rC) ∧ Hid (EqA can l.length p.length k j rA) ∧ Below w2.heap.size w2 wq ∧ base ≤ wq.heap.size ∧ Box wq bS 86 #[.string s1, .string s2, .slice s4 s3.length s5] ∧ Hid (∀ i, i < l.length → ∀ x, (hvC i).ownBlock = some x → x ≠ bS) ∧ Hid (∀ i, i < p.length → ∀ x, (hvA i).ownBlock = some x → x ≠ bS))
      case atStart => exact ⟨0, _, _, _, _, rfl, by omega, rfl, hAb1, hqC.out, hqA.out, hb1, hbs1, hS, hfC.out, hfA.out⟩
      case round =>
       clear hAb1 hb1 hbs1 hS hfC hfA hqC hqA hvC rC hvA rA
       obtain ⟨j, hvC, rC, hvA, rA, rfl, hj, hgj, hAb, hqC, hqA, hb, hbs, hS, hfC, hfA⟩ := hrel
       by_cases hjl : j < l.length
       ·
        obtain ⟨cb, co, hca, d0, d1⟩ := (HL.out _ (below_next hb2' hb)).wshC hjl
        have hcm : l[j] ∈ l := List.getElem_mem hjl
        have HC3 := Lib.hid (fun W (h : Below w2.heap.size w2 W) => HCK2.out W h l[j] hcm)
        have HQ := Lib.hid (HCB2.out j hjl)
        rw [← HQ.out] at HC3
        have Hca := Lib.hid hca
        rw [hca]
        clear hca hcm HQ
        generalize l[j] = y at *
        obtain ⟨y1, y2, y3, y4⟩ := y
        unfold Wsh.aggC at HC3
        simp only at d0 d1 HC3
        go_upto_region 15 with (fail)
        have hK := Box.new wr 90 #[.string y1, .slice y3 y2.length y4]
        have hbK : Below wr.heap.size wr (wr.alloc (.cells #[.string y1, .slice y3 y2.length y4] 90)) := (Below.refl _ _).alloc (Nat.le_refl _) _
        have hAb1 := hAb.below hbK
        have hb1 := below_next hb hbK
        have hbs1 := Nat.le_trans hbs hbK.size
        have hS1 := hS.below hbK
        clear hAb hb hbs hbK hS d0 d1
        generalize wr.alloc (.cells #[.string y1, .slice y3 y2.length y4] 90) = wK at *
        have HC4 := Lib.hid (HC3.out _ hb1)
        have hS1_l := hS1.lt; have hS1_0 := hS1.cell 0; have hS1_1 := hS1.cell 1; have hS1_2 := hS1.cell 2; simp at hS1_0 hS1_1 hS1_2
        have hK_l := hK.lt; have hK_0 := hK.cell 0; have hK_1 := hK.cell 1; simp at hK_0 hK_1
        go_wp2_with fail
        clear hS1_l hS1_0 hS1_1 hS1_2
        clear hK_l hK_0 hK_1
        rw [Ha.out] at HC4
        refine HC4.out.mono ?_
        rintro e w5 ⟨rfl, hb5⟩
        have hAb2 := hAb1.below hb5
        have hb6 := below_next hb1 hb5
        have hbs2 := Nat.le_trans hbs1 hb5.size
        have hS2 := hS1.below hb5
        clear hAb1 hb1 hbs1 hb5 hS1 hK HC4 HC3
        generalize hcv : can k j = cv at *
        cases cv
        ·
         go_wp2_with fail
         rw [← Hca.out]
         go_roundg (l.length - (j + 1))
         case measure => have := hgj.out; omega
         case rel => exact ⟨j + 1, hvC, rC, hvA, rA, by go_num, by omega, rfl, hAb2, hqC.out.skip hcv, hqA.out.skip hcv, hb6, hbs2, hS2, hfC.out, hfA.out⟩
        ·
         have hrl : (rC j).length ≤ 2000 := by
          rw [hqC.out j hjl, if_neg (Nat.lt_irrefl j)]
          have h1 := List.length_filter_le (fun s => can s j) (List.range k)
          rw [List.length_range] at h1
          omega
         have hral : (rA k).length ≤ 2000 := by
          rw [hqA.out k hlt, if_neg (by omega), if_pos rfl]
          have h1 := List.length_filter_le (can k) (List.range j)
          rw [List.length_range] at h1
          omega
         have hj0 : (0 : Int) ≤ (j : Int) := by omega
         have hj2 : (j : Int) < (l.length : Int) := by omega
         have hk0 : (0 : Int) ≤ (k : Int) := by omega
         have hk2 : (k : Int) < (p.length : Int) := by omega
         have hM0 := hAb2.box.cell 0
         simp at hM0
         have hC0 := hAb2.rc.box.cellF hjl
         simp only [id] at hC0
         have hlowC := hAb2.rc.low
         have hlowA := hAb2.ra.low
         have hSl := hS2.lt
         go_upto_region 16 with (fail)
         refine wp_regionF (S := (fun wx => wx.cell? ⟨M, 0, none⟩ = some (.slice (some ⟨C, 0, none⟩) l.length l.length) ∧ wx.cell? ⟨C, j, none⟩ = some (hvC j))) 16 (by kernel_rfl) ?hS (fun hHeld => ?_)
         case hS => exact ⟨hM0, hC0⟩
         refine rtakeF (i := 0) (d := (some 73)) (v := ?_) (n := 40) rfl (by kernel_rfl) (by kernel_rfl) (by kernel_rfl) (by kernel_rfl) (by kernel_rfl) (by kernel_rfl) (fun _ _ _ h => h) (by kernel_rfl) (by assumption) ?_ ?_
         rotate_left 1
         ·
          (intro wI hSI; (try dsimp only at hSI); go_simp; (try with_reducible rfl))
         simp only [Act.put, lsetA, lsetZ, lsetS]
         refine rtakeF (i := 1) (d := (some 74)) (v := ?_) (n := 40) rfl (by kernel_rfl) (by kernel_rfl) (by kernel_rfl) (by kernel_rfl) (by kernel_rfl) (by kernel_rfl) (fun _ _ _ h => h) (by kernel_rfl) (by assumption) ?_ ?_
         rotate_left 1
         ·
          (intro wI hSI; (try dsimp only at hSI); go_simp; (try with_reducible rfl))
         simp only [Act.put, lsetA, lsetZ, lsetS]
         refine rtakeF (i := 2) (d := (some 75)) (v := ?_) (n := 40) rfl (by kernel_rfl) (by kernel_rfl) (by kernel_rfl) (by kernel_rfl) (by kernel_rfl) (by kernel_rfl) (fun _ _ _ h => h) (by kernel_rfl) (by assumption) ?_ ?_
         rotate_left 1
         ·
          (intro wI hSI; (try dsimp only at hSI); go_simp; (try with_reducible rfl))
         simp only [Act.put, lsetA, lsetZ, lsetS]
         refine rtakeF (i := 3) (d := (some 76)) (v := ?_) (n := 40) rfl (by kernel_rfl) (by kernel_rfl) (by kernel_rfl) (by kernel_rfl) (by kernel_rfl) (by kernel_rfl) (fun _ _ _ h => h) (by kernel_rfl) (by assumption) ?_ ?_
         rotate_left 1
         ·
          (intro wI hSI; (try dsimp only at hSI); go_simp; (try with_reducible rfl))
         simp only [Act.put, lsetA, lsetZ, lsetS]
         refine rtakeF (i := 4) (d := (some 77)) (v := ?_) (n := 40) rfl (by kernel_rfl) (by kernel_rfl) (by kernel_rfl) (by kernel_rfl) (by kernel_rfl) (by kernel_rfl) (fun _ _ _ h => h) (by kernel_rfl) (by assumption) ?_ ?_
         rotate_left 1
         ·
          (intro wI hSI; (try dsimp only at hSI); go_simp; (try with_reducible rfl))
         simp only [Act.put, lsetA, lsetZ, lsetS]
         refine rtakeF (i := 5) (d := (some 78)) (v := ?_) (n := 40) rfl (by kernel_rfl) (by kernel_rfl) (by kernel_rfl) (by kernel_rfl) (by kernel_rfl) (by kernel_rfl) (fun _ _ _ h => h) (by kernel_rfl) (by assumption) ?_ ?_
         rotate_left 1
         ·
          (intro wI hSI; (try dsimp only at hSI); go_simp; (try with_reducible rfl))
         simp only [Act.put, lsetA, lsetZ, lsetS]
         refine rtakeF (i := 6) (d := (some 79)) (v := ?_) (n := 40) rfl (by kernel_rfl) (by kernel_rfl) (by kernel_rfl) (by kernel_rfl) (by kernel_rfl) (by kernel_rfl) (fun _ _ _ h => h) (by kernel_rfl) (by assumption) ?_ ?_
         rotate_left 1
         ·
          (intro wI hSI; (try dsimp only at hSI); go_simp; (try with_reducible rfl))
         simp only [Act.put, lsetA, lsetZ, lsetS]
         refine rtakeF (i := 7) (d := (some 80)) (v := ?_) (n := 40) rfl (by kernel_rfl) (by kernel_rfl) (by kernel_rfl) (by kernel_rfl) (by kernel_rfl) (by kernel_rfl) (fun _ _ _ h => h) (by kernel_rfl) (by assumption) ?_ ?_
         rotate_left 1
         ·
          (intro wI hSI; (try dsimp only at hSI); go_simp; (try with_reducible rfl))
         simp only [Act.put, lsetA, lsetZ, lsetS]
         refine rtakeF (i := 8) (d := (some 81)) (v := ?_) (n := 40) rfl (by kernel_rfl) (by kernel_rfl) (by kernel_rfl) (by kernel_rfl) (by kernel_rfl) (by kernel_rfl) (fun _ _ _ h => h) (by kernel_rfl) (by assumption) ?_ ?_
         rotate_left 1
         ·
          (intro wI hSI; (try dsimp only at hSI); go_simp; (try with_reducible rfl))
         simp only [Act.put, lsetA, lsetZ, lsetS]
         refine rtakeF (i := 9) (d := (some 82)) (v := ?_) (n := 40) rfl (by kernel_rfl) (by kernel_rfl) (by kernel_rfl) (by kernel_rfl) (by kernel_rfl) (by kernel_rfl) (fun _ _ _ h => h) (by kernel_rfl) (by assumption) ?_ ?_
         rotate_left 1
         ·
          (intro wI hSI; (try dsimp only at hSI); go_simp; (try with_reducible rfl))
         simp only [Act.put, lsetA, lsetZ, lsetS]
         refine rtakeF (i := 10) (d := (some 83)) (v := ?_) (n := 40) rfl (by kernel_rfl) (by kernel_rfl) (by kernel_rfl) (by kernel_rfl) (by kernel_rfl) (by kernel_rfl) (fun _ _ _ h => h) (by kernel_rfl) (by assumption) ?_ ?_
         rotate_left 1
         ·
          (intro wI hSI; (try dsimp only at hSI); go_simp; (try with_reducible rfl))
         simp only [Act.put, lsetA, lsetZ, lsetS]
         refine rtakeF (i := 11) (d := (some 84)) (v := ?_) (n := 40) rfl (by kernel_rfl) (by kernel_rfl) (by kernel_rfl) (by kernel_rfl) (by kernel_rfl) (by kernel_rfl) (fun _ _ _ h => h) (by kernel_rfl) (by assumption) ?_ ?_
         rotate_left 1
         ·
          (intro wI hSI; (try dsimp only at hSI); go_simp; (try with_reducible rfl))
         simp only [Act.put, lsetA, lsetZ, lsetS]
         refine rtakeF (i := 12) (d := (some 85)) (v := ?_) (n := 40) rfl (by kernel_rfl) (by kernel_rfl) (by kernel_rfl) (by kernel_rfl) (by kernel_rfl) (by kernel_rfl) (fun _ _ _ h => h) (by kernel_rfl) (by assumption) ?_ ?_
         rotate_left 1
         ·
          (intro wI hSI; (try dsimp only at hSI); go_simp; (try with_reducible rfl))
         simp only [Act.put, lsetA, lsetZ, lsetS]
         have hbX : Below w5.heap.size w5 (w5.alloc (.cells #[.int .i64 (k : Nat)] 3)).drew := ((Below.refl w5.heap.size w5).alloc (Nat.le_refl _) _).drew
         have hAb3 := hAb2.below hbX
         have hb7 := below_next hb6 hbX
         have hS3 := hS2.below hbX
         have hbs3 := Nat.le_trans hbs2 hbX.size
         have hSl3 := hS3.lt
         clear hAb2 hb6 hS2 hbs2 hC0 hM0
         refine rcallF (i := 13) (d := (some 86)) (by kernel_rfl) rfl (by kernel_rfl) (fun K hK => ?_)
         go_simp
         refine hK.out _ _ (.inr ?hS) (fun hHeld0 => ?_)
         case hS => exact ⟨hAb3.box.cell 0, hAb3.rc.box.cellF hjl⟩
         clear hK K
         have hHeld := hHeld0.resolve_left (by decide)
         simp only [Act.put, lsetA, lsetZ, lsetS]
         refine rcallF (i := 14) (d := (some 87)) (by kernel_rfl) rfl (by kernel_rfl) (fun K hK => ?_)
         refine step_append_lie (α := Nat) (by rfl) _ _ 22 (by rfl) 3 8 (.int .i64 0) Tryz.underlying22 infoIntC (by rfl) (hvC j) (rC j) (by rfl) (hAb3.rc.own j hjl) k _ (by rfl) (Box.new _ _ _).drew (by omega) (by omega) (by omega) ?_; intro g9 cap9 w9 hown9 hg9 hat9; have hk9 : Kp (fun x => (hvC j).ownBlock = some x) _ w9 := (Kp.refl (fun x => (hvC j).ownBlock = some x) _).grown hg9 (fun x hx => .inl hx); have hnC : ∀ x, x < base → ¬ (hvC j).ownBlock = some x := (fun x hx e => by have := ((hAb3.rc.own j hjl).lt x e).1; omega); have hbC9 := hAb3.rc.box.kp hk9 (hnC _ hlowC); have hbM9 := hAb3.box.kp hk9 (hnC _ hAb3.low.1); have hc9 := hbC9.cellF hjl; have hf9 := hbC9.frozen j; have hm9 := hbM9.cell 0; simp at hm9; simp only [id] at hc9
         refine hK.out _ _ (.inr ?hS) (fun hHeld0 => ?_)
         case hS => exact ⟨hm9, hc9⟩
         clear hK K
         have hHeld := hHeld0.resolve_left (by decide)
         simp only [Act.put, lsetA, lsetZ, lsetS]
         refine rtakeF (i := 15) (d := (some 88)) (v := ?_) (n := 40) rfl (by kernel_rfl) (by kernel_rfl) (by kernel_rfl) (by kernel_rfl) (by kernel_rfl) (by kernel_rfl) (fun _ _ _ h => h) (by kernel_rfl) (by assumption) ?_ ?_
         rotate_left 1
         ·
          (intro wI hSI; (try dsimp only at hSI); go_simp; (try with_reducible rfl))
         simp only [Act.put, lsetA, lsetZ, lsetS]
         refine rcallF (i := 16) (d := none) (by kernel_rfl) rfl (by kernel_rfl) (fun K hK => ?_)
         go_simp
         refine hK.out undef _ (.inl rfl) (fun _ => ?_)
         clear hK K
         simp only [Act.put, lsetA, lsetZ, lsetS]
         refine wpAnyF_done (by kernel_rfl) ?_ _
         have hAb4 := hAb3.pushC hjl hown9 hg9 (atNew hat9)
         have hkS := hAb3.rc.pushed (v' := .slice (some ⟨g9, 0, none⟩) ((rC j).length + 1) cap9) hjl hg9
         have hS4 := hS3.kp hkS (fun e => by rcases e with e | e; exact hfC.out j hjl _ e rfl; omega)
         have hbs4 := Nat.le_trans hbs3 hkS.size
         have hb8 := belowKp hb7 hkS (fun x hx => by rcases hx with hx | hx; (have := ((hAb3.rc.own j hjl).lt x hx).1; omega); omega) hb7.size
         have hfC2 : Hid (∀ i, i < l.length → ∀ x, (upd hvC j (.slice (some ⟨g9, 0, none⟩) ((rC j).length + 1) cap9) i).ownBlock = some x → x ≠ bS) := fun i hi x hx => by
          by_cases e : i = j
          ·
           subst e
           rw [upd_at] at hx
           rcases atNew hat9 x hx with h1 | h1
           ·
            exact hfC.out i hi x h1
           ·
            omega
          ·
           rw [upd_ne _ _ e] at hx
           exact hfC.out i hi x hx
         have hqC2 := Lib.hid (hqC.out.put hjl hcv)
         clear hAb3 hb7 hS3 hbs3 hHeld hg9 hown9 hat9 hk9 hnC hbC9 hbM9 hc9 hf9 hm9 hkS hfC hqC hSl hSl3 hbX
         generalize hvC' : upd hvC j (.slice (some ⟨g9, 0, none⟩) ((rC j).length + 1) cap9) = hvC2 at *
         generalize hrC' : upd rC j (rC j ++ [k]) = rC2 at *
         generalize w9.setCell ⟨C, j, none⟩ (.slice (some ⟨g9, 0, none⟩) ((rC j).length + 1) cap9) = w6 at *
         clear hvC' hrC'
         have hA0 := hAb4.ra.box.cellF hlt
         simp only [id] at hA0
         have hbY : Below w6.heap.size w6 (w6.alloc (.cells #[.int .i64 (j : Nat)] 3)) := (Below.refl w6.heap.size w6).alloc (Nat.le_refl _) _
         have hAb5 := hAb4.below hbY
         have hb9 := below_next hb8 hbY
         have hS5 := hS4.below hbY
         have hbs5 := Nat.le_trans hbs4 hbY.size
         have hSl5 := hS5.lt
         clear hAb4 hb8 hS4 hbs4 hbY
         go_wp2_with (at_builtin; refine wpList_append_lie (α := Nat) rfl _ _ 22 rfl 3 8 (.int .i64 0) Tryz.underlying22 infoIntC rfl _ (rA k) rfl (hAb5.ra.own k hlt) j _ rfl (Box.new _ _ _) (by omega) (by omega) (by omega) ?_; intro g8 cap8 w8 hown8 hg8 hat8; have hk8 : Kp (fun x => (hvA k).ownBlock = some x) _ w8 := (Kp.refl (fun x => (hvA k).ownBlock = some x) _).grown hg8 (fun x hx => .inl hx); have hnA : ∀ x, x < base → ¬ (hvA k).ownBlock = some x := (fun x hx e => by have := ((hAb5.ra.own k hlt).lt x e).1; omega); have hbA8 := hAb5.ra.box.kp hk8 (hnA _ hlowA); have hc8 := hbA8.cellF hlt; have hf8 := hbA8.frozen k; simp only [id] at hc8)
         have hAb6 := hAb5.pushA hlt hown8 hg8 (atNew hat8)
         have hkT := hAb5.ra.pushed (v' := .slice (some ⟨g8, 0, none⟩) ((rA k).length + 1) cap8) hlt hg8
         have hS6 := hS5.kp hkT (fun e => by rcases e with e | e; exact hfA.out k hlt _ e rfl; omega)
         have hbs6 := Nat.le_trans hbs5 hkT.size
         have hb10 := belowKp hb9 hkT (fun x hx => by rcases hx with hx | hx; (have := ((hAb5.ra.own k hlt).lt x hx).1; omega); omega) hb9.size
         have hfA2 : Hid (∀ i, i < p.length → ∀ x, (upd hvA k (.slice (some ⟨g8, 0, none⟩) ((rA k).length + 1) cap8) i).ownBlock = some x → x ≠ bS) := fun i hi x hx => by
          by_cases e : i = k
          ·
           subst e
           rw [upd_at] at hx
           rcases atNew hat8 x hx with h1 | h1
           ·
            exact hfA.out i hi x h1
           ·
            omega
          ·
           rw [upd_ne _ _ e] at hx
           exact hfA.out i hi x hx
         have hqA2 := Lib.hid (hqA.out.put hlt hcv)
         clear hAb5 hb9 hS5 hbs5 hg8 hown8 hat8 hk8 hnA hbA8 hc8 hf8 hkT hfA hqA hSl5
         generalize hvA' : upd hvA k (.slice (some ⟨g8, 0, none⟩) ((rA k).length + 1) cap8) = hvA2 at *
         generalize hrA' : upd rA k (rA k ++ [j]) = rA2 at *
         clear hvA' hrA'
         go_wp2_with fail
         rw [← Hca.out]
         go_roundg (l.length - (j + 1))
         case measure => have := hgj.out; omega
         case rel => exact ⟨j + 1, hvC2, rC2, hvA2, rA2, by go_num, by omega, rfl, hAb6, hqC2.out, hqA2.out, hb10, hbs6, hS6, hfC2.out, hfA2.out⟩
       ·
        obtain rfl : j = l.length := by omega
        have hqC3 := Lib.hid hqC.out.next
        have hqA3 := Lib.hid hqA.out.next
        clear hqC hqA
        go_wp2_with fail
        rw [← Ha.out]
        go_roundg (p.length - (k + 1))
        case measure => have := hgk.out; omega
        case rel => exact ⟨k + 1, hvC, rC, hvA, rA, by go_num, by omega, rfl, hAb, hqC3.out, hqA3.out, hb, hbs⟩
     ·
      obtain rfl : k = p.length := by omega
      have hCh0 := (hAb.cho hqC.out hbs HN.out).same (u := fun _ => false) (d := fun s => decide (s < 0)) (fun c _ => rfl) (fun s _ => (decide_eq_false (by omega)).symm)
      have HRC : Hid (∀ c, c < l.length → rC c = (List.range p.length).filter (fun s => can s c)) := fun c hc => by rw [hqC.out c hc, if_neg (by omega)]
      have HRA : Hid (∀ s, s < p.length → rA s = (List.range l.length).filter (can s)) := fun s hs => by rw [hqA.out s hs, if_pos hs]
      have hrl : ∀ c, c < l.length → (rC c).length ≤ 100000 := fun c hc => by
       rw [HRC.out c hc]
       have h1 := List.length_filter_le (fun s => can s c) (List.range p.length)
       rw [List.length_range] at h1
       omega
      clear hAb hqC hqA HCN2 HN hgk hlt hk
      obtain ⟨n0, hn0⟩ : ∃ n0, n0 = wr.heap.size := ⟨_, rfl⟩
      rw [← hn0] at hCh0
      have HMO : Hid (∀ W us k, Cho base n0 M C T U D A l.length p.length hvC rC hvA rA us (fun s => decide (s < k)) W → n0 ≤ W.heap.size → Calls Tryz.prog 51 #[.pointer (some ⟨M, 0, none⟩)] W (fun e w' => e = .returned (.int .i64 (mst us k : Nat)) ∧ Cho base n0 M C T U D A l.length p.length hvC rC hvA rA us (fun s => decide (s < k)) w' ∧ Kp (fun j => j = T) W w')) := fun W us k h hW => by
       obtain ⟨o, ho⟩ := h.tk
       refine (most_any (by omega) (by omega) o W h.m ho (Nat.le_trans h.le hW) hrl).mono ?_
       rintro e w' ⟨n, o', rfl, hru, -, hT', hk⟩
       have e1 := runs_most hmst HRC.out (done := fun s => decide (s < k)) (fun s _ => rfl) hru
       exact ⟨by rw [e1], h.most hk hT', hk⟩
      have HC0 : Hid (chTo can l.length mst 0 = (fun _ => false, mst (fun _ => false) 0, [])) := rfl
      have HCNo := Lib.hid (fun k h => @chTo_none can l.length mst k h)
      have HCSo := Lib.hid (fun k c h => @chTo_some can l.length mst k c h)
      have HCL := Lib.hid (chTo_len can l.length mst)
      have HCF2 := Lib.hid (chTo_left can l.length mst (most_le hmst (fun _ => false) 0))
      have HBE : Hid (∀ k us lf, chBest can l.length mst k us lf = ((List.range l.length).filter (can k)).find? (fun c => !us c && decide (mst (upd us c true) (k + 1) + 1 = lf))) := fun k us lf => by
       show chBest can l.length mst k us lf = _
       rw [find_filter]
       rfl
      have HML := Lib.hid (fun us k => most_le hmst us k)
      generalize chTo can l.length mst = ct at *
      have HM1 := Lib.hid (HMO.out wr (fun _ => false) 0 hCh0 (by omega))
      have hn0b : base ≤ n0 := by omega
      clear hmst hrl
      go_wp2_with fail
      refine HM1.out.mono ?_
      rintro e w6 ⟨rfl, hCh1, hk1⟩
      have hb1 := belowKp hb hk1 (fun x hx => by omega) hb.size
      have hs1 : n0 ≤ w6.heap.size := by have := hk1.size; omega
      clear HM1 hCh0 hk1 hb hbs hn0 hbw
      go_wp2_with fail
      go_loopg [105, 17, 18] p.length (fun gk iv lv ov wr => ∃ (k : Nat) (v : Value), v = ov ∧ iv = .int .i64 k ∧ lv = .int .i64 ((ct k).2.1 : Nat) ∧ k ≤ p.length ∧ Hid (gk = p.length - k) ∧ Cho base n0 M C T U D A l.length p.length hvC rC hvA rA (ct k).1 (fun s => decide (s < k)) wr ∧ Own n0 48 wr v ((ct k).2.2.map (chdOf p l)) ∧ Below w2.heap.size w2 wr ∧ n0 ≤ wr.heap.size)
      case atStart => exact ⟨0, _, rfl, rfl, by rw [HC0.out], by omega, rfl, by rw [HC0.out]; exact hCh1, by rw [HC0.out]; exact Own.nil _ _ _, hb1, hs1⟩
      case round =>
       clear hCh1 hb1 hs1
       obtain ⟨k, v, rfl, rfl, rfl, hk, hgk, hCh, hown, hb, hsz⟩ := hrel
       have hbw := below_next hb2' hb
       by_cases hlt : k < p.length
       ·
        obtain ⟨sb, so, ha, c0, c1, c2⟩ := (HP.out _ hbw).sesC hlt
        have HNx := Lib.hid (HCNo.out k)
        have HSx := Lib.hid (fun c h => HCSo.out k c h)
        have hal := HCL.out k
        have hlf := HCF2.out k
        have HBx := Lib.hid (HBE.out k (ct k).1 (ct k).2.1)
        have HDx := Lib.hid (fun c (hc : c < l.length) => chdOf_at (p := p) (l := l) hlt hc)
        have hkr := HRA.out k hlt
        have Ha := Lib.hid ha
        rw [ha]
        clear ha hbw
        rw [HBx.out] at HNx HSx
        generalize hct : ct k = st at *
        obtain ⟨us, lf, acc⟩ := st
        simp only at hCh hown hal hlf HNx HSx HBx
        generalize hxs : (List.range l.length).filter (can k) = xs at *
        have hxr : Hid (∀ (n : Nat) (h : n < xs.length), xs[n] < l.length) := fun n h => by
         have h1 : xs[n] ∈ (List.range l.length).filter (can k) := by rw [hxs]; exact List.getElem_mem h
         exact List.mem_range.1 (List.mem_filter.1 h1).1
        have hxl : xs.length ≤ l.length := by
         have h1 := List.length_filter_le (can k) (List.range l.length)
         rw [hxs, List.length_range] at h1
         exact h1
        generalize p[k] = x at *
        obtain ⟨s1, s2, s3, s4, s5⟩ := x
        simp only at c0 c1 c2 HDx
        have hk0 : (0 : Int) ≤ (k : Int) := by omega
        have hk2 : (k : Int) < (p.length : Int) := by omega
        go_upto_region 25 with (fail)
        have hS := Box.new wr 86 #[.string s1, .string s2, .slice s4 s3.length s5]
        have hbS : Below wr.heap.size wr (wr.alloc (.cells #[.string s1, .string s2, .slice s4 s3.length s5] 86)) := (Below.refl _ _).alloc (Nat.le_refl _) _
        have hCh1 := hCh.kp (Kp.of_below (X := fun _ => False) hbS) (fun _ h => h.elim)
        have hown1 := hown.below hbS
        have hb1 := below_next hb hbS
        have hsz1 := Nat.le_trans hsz hbS.size
        have hSn : n0 ≤ wr.heap.size := hsz
        have hvS : ¬ v.ownBlock = some wr.heap.size := fun e => by have := (hown.lt _ e).2; omega
        have hd0 := hCh1.m.box.cell 3
        simp at hd0
        have hd1 := hCh1.m.done.cellF hlt
        have hd2 := hCh1.m.done.frozen k
        have hCh2 := (hCh1.setD k true).same (u := us) (d := fun s => decide (s < k + 1)) (fun c _ => rfl) (fun s _ => by
         by_cases e : s = k
         ·
          subst e; rw [upd_at]; exact (decide_eq_true (by omega)).symm
         ·
          rw [upd_ne _ _ e]
          by_cases e2 : s < k
          ·
           rw [decide_eq_true e2, decide_eq_true (by omega)]
          ·
           rw [decide_eq_false e2, decide_eq_false (by omega)])
        have hkD : Kp (fun j => j = D) (wr.alloc (.cells #[.string s1, .string s2, .slice s4 s3.length s5] 86)) ((wr.alloc (.cells #[.string s1, .string s2, .slice s4 s3.length s5] 86)).setCell ⟨D, k, none⟩ (.bool true)) := (Kp.refl (fun j => j = D) _).setCell (p := ⟨D, k, none⟩) (.inl rfl) _
        have hDb := hCh1.m.low.2.2.2
        have hown2 := hown1.kp hkD (fun j hj e => by have := (hown1.lt j hj).1; omega)
        have hS2 := hS.kp hkD (fun e => by omega)
        have hb2 := belowKp hb1 hkD (fun j e => by omega) hb1.size
        have hsz2 := Nat.le_trans hsz1 hkD.size
        clear hCh hown hb hsz hS hbS hCh1 hown1 hb1 hsz1 hkD c0 c1 c2
        go_upto_region 26 with (fail)
        clear hd0 hd1 hd2
        generalize (wr.alloc (.cells #[.string s1, .string s2, .slice s4 s3.length s5] 86)).setCell ⟨D, k, none⟩ (.bool true) = wD at *
        generalize wr.heap.size = bS at *
        have HvS : Hid (v.ownBlock ≠ some bS) := fun e => hvS (by rw [e])
        have hA0 := hCh2.ra.box.cellF hlt
        simp only [id] at hA0
        obtain ⟨ra, rcp, hvk, -, -, -⟩ := (hCh2.ra.own k hlt).form
        rw [hvk] at hA0
        rw [hkr] at hvk hA0
        have HRW : Hid (∀ W us d, Cho base n0 M C T U D A l.length p.length hvC rC hvA rA us d W → SA W ra xs) := fun W us d h => by
         obtain ⟨a', c', he, hsa, -, -⟩ := (h.ra.own k hlt).form
         rw [hvk, hkr] at he
         simp only [Value.slice.injEq] at he
         rw [he.1]
         rw [hkr] at hsa
         exact hsa
        clear hvk
        go_wp2_with fail
        clear hA0
        go_loopg [121, 17, 18] xs.length (fun gj jv lv ov wr => ∃ (n : Nat), lv = .int .i64 (lf : Nat) ∧ v = ov ∧ jv = .int .i64 n ∧ n ≤ xs.length ∧ Hid (gj = xs.length - n) ∧ Hid (∀ i (h : i < xs.length), i < n → (!us xs[i] && decide (mst (upd us xs[i] true) (k + 1) + 1 = lf)) = false) ∧ Cho base n0 M C T U D A l.length p.length hvC rC hvA rA us (fun s => decide (s < k + 1)) wr ∧ Own n0 48 wr v (acc.map (chdOf p l)) ∧ Below w2.heap.size w2 wr ∧ n0 ≤ wr.heap.size ∧ Box wr bS 86 #[.string s1, .string s2, .slice s4 s3.length s5])
        case atStart => exact ⟨0, rfl, rfl, rfl, by omega, rfl, (fun i h hi => by omega), hCh2, hown2, hb2, hsz2, hS2⟩
        case round =>
         clear hCh2 hown2 hb2 hsz2 hS2
         obtain ⟨n, rfl, rfl, rfl, hn, hgj, hno, hCh, hown, hb, hsz, hS⟩ := hrel
         by_cases hnl : n < xs.length
         ·
          obtain ⟨rb, ro, hra, d0⟩ := (HRW.out _ _ _ hCh).natC hnl
          have hcl := hxr.out n hnl
          have Hra := Lib.hid hra
          have Hnn : Hid ((!us xs[n] && decide (mst (upd us xs[n] true) (k + 1) + 1 = lf)) = false → ∀ i (h : i < xs.length), i < n + 1 → (!us xs[i] && decide (mst (upd us xs[i] true) (k + 1) + 1 = lf)) = false) := fun h0 i h hi => by
           by_cases e : i = n
           ·
            subst e; exact h0
           ·
            exact hno.out i h (by omega)
          have Hyy : Hid ((!us xs[n] && decide (mst (upd us xs[n] true) (k + 1) + 1 = lf)) = true → ct (k + 1) = (upd us xs[n] true, lf - 1, acc ++ [(k, xs[n])])) := fun h0 => HSx.out xs[n] (find_at hnl (fun j hj hjn => hno.out j hj hjn) h0)
          rw [hra]
          clear hra
          generalize xs[n] = c at *
          have hM0 := hCh.m.box.cell 2
          simp at hM0
          have hU0 := hCh.m.used.cellF hcl
          have hUf := hCh.m.used.frozen c
          have hc0 : (0 : Int) ≤ (c : Int) := by omega
          have hc2 : (c : Int) < (l.length : Int) := by omega
          cases husc : us c
          ·
           rw [husc] at hU0
           by_cases hl0 : lf = 0
           ·
            have Hn2 := Lib.hid (Hnn.out (by rw [husc, hl0]; simp))
            subst hl0
            clear Hnn Hyy
            go_wp2_with fail
            rw [← Hra.out]
            go_roundg (xs.length - (n + 1))
            case measure => have := hgj.out; omega
            case rel => exact ⟨n + 1, rfl, rfl, by go_num, by omega, rfl, Hn2.out, hCh, hown, hb, hsz, hS⟩
           ·
            have hl1 : ((lf : Int) == 0) = false := by simpa using hl0
            have hCh3 := hCh.setU c true
            have hkU : Kp (fun j => j = U) wr (wr.setCell ⟨U, c, none⟩ (.bool true)) := (Kp.refl (fun j => j = U) _).setCell (p := ⟨U, c, none⟩) (.inl rfl) _
            have hUb := hCh.m.low.2.2.1
            have hnbb := hCh.le
            have hown3 := hown.kp hkU (fun j hj e => by have := (hown.lt j hj).1; omega)
            have hS3 := hS.kp hkU (fun e => by omega)
            have hb3 := belowKp hb hkU (fun j e => by omega) hb.size
            have hsz3 := Nat.le_trans hsz hkU.size
            have HC := Lib.hid (HMO.out _ _ _ hCh3 hsz3)
            clear hCh hown hb hsz hS hkU hCh3
            have hwl : IntKind.i64.wrap ((lf : Int) - 1) = (lf : Int) - 1 := IntWalk.i64_in _ (by omega)
            have hmm := HML.out (upd us c true) (k + 1)
            go_wp2_with fail
            refine HC.out.mono ?_
            rintro e w7 ⟨rfl, hCh4, hk4⟩
            have hTb := hCh4.m.low.2.1
            have hown4 := hown3.kp hk4 (fun j hj e => by have := (hown3.lt j hj).1; omega)
            have hS4 := hS3.kp hk4 (fun e => by omega)
            have hb4 := belowKp hb3 hk4 (fun j e => by omega) hb3.size
            have hsz4 := Nat.le_trans hsz3 hk4.size
            clear hown3 hS3 hb3 hsz3 hk4 HC hM0 hU0 hUf d0
            by_cases hmq : mst (upd us c true) (k + 1) + 1 = lf
            ·
             have hd : (((mst (upd us c true) (k + 1) : Nat) : Int) == (lf : Int) - 1) = true := by rw [beq_iff_eq]; omega
             have Hst := Lib.hid (Hyy.out (by rw [husc, hmq]; simp))
             obtain ⟨cb, co, hca, e0, e1⟩ := (HL.out _ (below_next hb2' hb4)).wshC hcl
             have HDc := Lib.hid (HDx.out c hcl)
             have Hca := Lib.hid hca
             rw [hca]
             clear hca e1 Hyy Hnn hno hmq HBx HNx HSx
             generalize hy1 : l[c].person = y1 at *
             have Hy1 := Lib.hid hy1
             clear hy1
             have cS0 := hS4.cell 0
             have cS1 := hS4.cell 1
             simp at cS0 cS1
             have hlen : (acc.map (chdOf p l)).length ≤ 1000 := by rw [List.length_map]; omega
             have hol := hown4.lt
             go_upto_region 33 with (fail)
             refine wp_region_held_drew (S := (fun wx => wx.cell? ⟨bS, 0, none⟩ = some (.string s1) ∧ wx.cell? ⟨bS, 1, none⟩ = some (.string s2) ∧ wx.cell? ⟨cb, co + c * 2, none⟩ = some (.string y1))) (by kernel_rfl) ?hS (fun hHeld => ?_)
             case hS => exact ⟨cS0, cS1, e0⟩
             refine rt 0 (some 149) ?_
             refine rt 1 (some 150) ?_
             refine rt 2 (some 151) ?_
             refine rt 3 (some 152) ?_
             refine rt 4 (some 153) ?_
             refine rt 5 (some 154) ?_
             refine rt 6 (some 155) ?_
             refine rt 7 (some 156) ?_
             refine rt 8 (some 157) ?_
             refine rt 9 (some 158) ?_
             refine rt 10 (some 159) ?_
             refine rcall (i := 11) (d := (some 160)) (by kernel_rfl) rfl (by kernel_rfl) (fun K hK => ?_)
             go_simp
             skip
             refine hK.out _ _ ?hS (fun hHeld => ?_)
             case hS => exact (have hA := (Below.refl w7.heap.size w7).drew.alloc (by show w7.heap.size ≤ _; exact Nat.le_refl _) (.cells #[.string s1, .string s2, .string y1] 48); ⟨cell_later hA cS0, cell_later hA cS1, cell_later hA e0⟩)
             clear hK K
             simp only [Act.put, lsetA, lsetZ, lsetS]
             refine rcall (i := 12) (d := (some 161)) (by kernel_rfl) rfl (by kernel_rfl) (fun K hK => ?_)
             refine step_append_lie (α := Chd) (by rfl) _ _ 38 (by rfl) 48 48 (.agg #[.string ⟨#[]⟩, .string ⟨#[]⟩, .string ⟨#[]⟩]) Tryz.underlying38 infoChd (by rfl) v (acc.map (chdOf p l)) (by rfl) (hown4.alloc (.cells #[.string s1, .string s2, .string y1] 48)).drew (s1, s2, y1) w7.heap.size (by rfl) (Box.drew (Box.new w7 48 #[.string s1, .string s2, .string y1])) (by omega) (by omega) (by simp; omega) ?_; intro g9 cap9 w9 hown9 hg9 hat9; have hk9 : Kp (fun x => v.ownBlock = some x) w7 w9 := (((Kp.refl (fun x => v.ownBlock = some x) w7).alloc (.cells #[.string s1, .string s2, .string y1] 48)).drew).grown hg9 (fun x hx => .inl hx); have hE9 := hS4.kp hk9 (fun e => HvS.out e); have hb9 := belowKp hb4 hk9 (fun x hx => by have := (hol x hx).1; omega) hb4.size; obtain ⟨cb2, co2, hca2, f0, -⟩ := (HL.out _ (below_next hb2' hb9)).wshC hcl; have hca3 := hca2.symm.trans Hca.out; simp only [Option.some.injEq, Addr.mk.injEq, and_true] at hca3; obtain ⟨hcb2, hco2⟩ := hca3; rw [Hy1.out, hcb2, hco2] at f0
             refine hK.out _ _ ?hS (fun hHeld => ?_)
             case hS => exact ⟨by have h0 := hE9.cell 0; simpa using h0, by have h0 := hE9.cell 1; simpa using h0, f0⟩
             clear hK K
             simp only [Act.put, lsetA, lsetZ, lsetS]
             refine rt 13 (some 18) ?_
             refine wpAnyH_done (by kernel_rfl) ?_ _
             have hCh9 := hCh4.kp hk9 (fun x hx => (hol x hx).1)
             have hsz9 := Nat.le_trans hsz4 hk9.size
             have hwl2 : ((lf : Int) - 1) = ((lf - 1 : Nat) : Int) := by omega
             rw [← HDc.out] at hown9
             have hown10 : Own n0 48 w9 (.slice (some ⟨g9, 0, none⟩) ((acc.map (chdOf p l)).length + 1) cap9) ((acc ++ [(k, c)]).map (chdOf p l)) := by
              rw [List.map_append]; exact hown9
             rw [List.length_map] at hown10
             clear hHeld hg9 hat9 hown9 hk9 hE9 hCh4 hown4 hb4 hsz4 hS4 cS0 cS1 e0 f0 hca2 hcb2 hco2 hol hlen
             go_wp2_with fail
             rw [← Hca.out, ← Ha.out]
             go_roundg (p.length - (k + 1))
             case measure => have := hgk.out; omega
             case rel => exact ⟨k + 1, _, rfl, by go_num, by rw [Hst.out, hwl2], by omega, rfl, by rw [Hst.out]; exact hCh9, by rw [Hst.out]; exact hown10, hb9, hsz9⟩
            ·
             have hd : (((mst (upd us c true) (k + 1) : Nat) : Int) == (lf : Int) - 1) = false := by rw [beq_eq_false_iff_ne]; omega
             have Hn2 := Lib.hid (Hnn.out (by rw [husc, decide_eq_false hmq]; rfl))
             have hM0 := hCh4.m.box.cell 2
             simp at hM0
             have hU0 := hCh4.m.used.cellF hcl
             have hUf := hCh4.m.used.frozen c
             have hCh5 := (hCh4.setU c false).same (u := us) (d := fun s => decide (s < k + 1)) (fun x _ => by
              by_cases e : x = c
              ·
               rw [e, upd_at, husc]
              ·
               rw [upd_ne _ _ e, upd_ne _ _ e]) (fun s _ => rfl)
             have hkU : Kp (fun j => j = U) w7 (w7.setCell ⟨U, c, none⟩ (.bool false)) := (Kp.refl (fun j => j = U) _).setCell (p := ⟨U, c, none⟩) (.inl rfl) _
             have hown5 := hown4.kp hkU (fun j hj e => by have := (hown4.lt j hj).1; omega)
             have hS5 := hS4.kp hkU (fun e => by omega)
             have hb5 := belowKp hb4 hkU (fun j e => by omega) hb4.size
             have hsz5 := Nat.le_trans hsz4 hkU.size
             clear hCh4 hown4 hb4 hsz4 hS4 hkU Hnn Hyy
             go_wp2_with fail
             rw [← Hra.out]
             go_roundg (xs.length - (n + 1))
             case measure => have := hgj.out; omega
             case rel => exact ⟨n + 1, rfl, rfl, by go_num, by omega, rfl, Hn2.out, hCh5, hown5, hb5, hsz5, hS5⟩
          ·
           rw [husc] at hU0
           have Hn2 := Lib.hid (Hnn.out (by rw [husc]; rfl))
           clear Hnn Hyy
           go_wp2_with fail
           rw [← Hra.out]
           go_roundg (xs.length - (n + 1))
           case measure => have := hgj.out; omega
           case rel => exact ⟨n + 1, rfl, rfl, by go_num, by omega, rfl, Hn2.out, hCh, hown, hb, hsz, hS⟩
         ·
          obtain rfl : n = xs.length := by omega
          have Hst := Lib.hid (HNx.out (find_none hno.out (Nat.le_refl _)))
          clear hno HNx HSx HBx
          go_wp2_with fail
          rw [← Ha.out]
          go_roundg (p.length - (k + 1))
          case measure => have := hgk.out; omega
          case rel => exact ⟨k + 1, _, rfl, by go_num, by rw [Hst.out], by omega, rfl, by rw [Hst.out]; exact hCh, by rw [Hst.out]; exact hown, hb, hsz⟩
       ·
        obtain rfl : k = p.length := by omega
        rw [← HX.out] at hown
        have hownF := hown.mono (base' := w.heap.size) (by have := hb2'.size; omega)
        clear hCh hown
        go_wp2_with fail
        refine bodyPost_ret (v := .tuple #[v, .int .i64 0]) (by simp only [results, Tryz.results10]; go_simp) rfl ?_
        exact ⟨below_next hb2' hb, .inr ⟨HE.out, v, rfl, hownF⟩⟩
  ·
   have hq : (F != 0) = true := by simpa using hf
   go_wp2_with fail
   go_ret2
   exact ⟨hb2', .inl ⟨by rw [HE.out]; exact hf, by rw [HE.out] <;> rfl⟩⟩
 ·
  obtain ⟨-, rfl⟩ := hc.resolve_right (fun h => h0 h.1)
  have hq : (bothF g p != 0) = true := by simpa using h0
  rw [if_pos h0] at HE
  clear hc
  go_wp2_with fail
  go_ret2
  exact ⟨hb1', .inl ⟨by rw [HE.out]; exact h0, by rw [HE.out] <;> rfl⟩⟩
theorem Rws.same {α : Type} [Cel α] {base : Nat} {E T : TypeId} {b n : Nat} {hv : Nat → Value} {rows r2 : Nat → List α} {w : World} (h : Rws base E T b n hv rows w) (k : ∀ i, i < n → rows i = r2 i) : Rws base E T b n hv r2 w :=
 ⟨h.box, fun i hi => by rw [← k i hi]; exact h.own i hi, h.dis, h.low⟩
theorem infoBoolL : (Tryz.prog.info? 96).map (fun i => (i.zero, i.size, i.bytes)) = some (some (.slice none 0 0), 1, 24) := by kernel_rfl
/-- What the rows hold when k sessions were gone through, and j chairs of the next one. -/
def EqR (can : Nat → Nat → Bool) (nc ns k j : Nat) (r : Nat → List Bool) : Prop := ∀ s, s < ns → r s = if s < k then rowR can nc s else if s = k then (List.range j).map (can s) else []
theorem EqR.put {can : Nat → Nat → Bool} {nc ns k j : Nat} {r : Nat → List Bool} (h : EqR can nc ns k j r) (hk : k < ns) {b : Bool} (hb : b = can k j) : EqR can nc ns k (j + 1) (upd r k (r k ++ [b])) := fun s hs => by
 by_cases e : s = k
 ·
  subst e
  rw [upd_at, h s hs, if_neg (by omega), if_pos rfl, if_neg (by omega), if_pos rfl, List.range_succ, List.map_append, hb]
  rfl
 ·
  rw [upd_ne _ _ e, h s hs, if_neg e, if_neg e]
theorem EqR.next {can : Nat → Nat → Bool} {nc ns k : Nat} {r : Nat → List Bool} (h : EqR can nc ns k nc r) : EqR can nc ns (k + 1) 0 r := fun s hs => by
 rw [h s hs]
 by_cases e1 : s < k
 ·
  rw [if_pos e1, if_pos (by omega)]
 ·
  by_cases e2 : s = k
  ·
   subst e2
   rw [if_neg (by omega), if_pos rfl, if_pos (by omega)]; rfl
  ·
   rw [if_neg e1, if_neg e2, if_neg (by omega)]
   split
   ·
    rfl
   ·
    rfl
/-- The rows are there, and who is free. -/
structure Mat (base n0 C FB nc ns : Nat) (hv : Nat → Value) (can : Nat → Nat → Bool) (free : Nat → Bool) (w : World) : Prop where
 rw_ : Rws base 4 96 C ns hv (rowR can nc) w
 fb : Box w FB 4 (cellsF Value.bool free nc)
 far : ∀ i, i < ns → ∀ x, (hv i).ownBlock = some x → x < FB
 le : base ≤ FB ∧ FB < n0
theorem Mat.kp {base n0 C FB nc ns : Nat} {hv : Nat → Value} {can : Nat → Nat → Bool} {free : Nat → Bool} {w w' : World} {X : Nat → Prop} (h : Mat base n0 C FB nc ns hv can free w) (k : Kp X w w') (hX : ∀ j, X j → n0 ≤ j) : Mat base n0 C FB nc ns hv can free w' := by
 obtain ⟨l1, l2⟩ := h.le
 have l3 := h.rw_.low
 have far : ∀ j, j < n0 → ¬ X j := fun j h1 h2 => by have := hX j h2; omega
 exact ⟨h.rw_.kp k (far _ (by omega)) (fun i hi j hj => far _ (by have := h.far i hi j hj; omega)), h.fb.kp k (far _ l2), h.far, h.le⟩
theorem Mat.below {base n0 C FB nc ns : Nat} {hv : Nat → Value} {can : Nat → Nat → Bool} {free : Nat → Bool} {w w' : World} (h : Mat base n0 C FB nc ns hv can free w) (k : Below w.heap.size w w') : Mat base n0 C FB nc ns hv can free w' := h.kp (X := fun _ => False) (Kp.of_below k) (fun _ h => h.elim)
theorem Mat.set {base n0 C FB nc ns : Nat} {hv : Nat → Value} {can : Nat → Nat → Bool} {free : Nat → Bool} {w : World} (h : Mat base n0 C FB nc ns hv can free w) (c : Nat) (b : Bool) : Mat base n0 C FB nc ns hv can (upd free c b) (w.setCell ⟨FB, c, none⟩ (.bool b)) := by
 obtain ⟨l1, l2⟩ := h.le
 have l3 := h.rw_.low
 have k : Kp (fun j => j = FB) w (w.setCell ⟨FB, c, none⟩ (.bool b)) := (Kp.refl (fun j => j = FB) w).setCell (p := ⟨FB, c, none⟩) (.inl rfl) _
 exact ⟨h.rw_.kp k (fun e => by omega) (fun i hi j hj e => by have := h.far i hi j hj; omega), h.fb.setF c b, h.far, h.le⟩
theorem Mat.same {base n0 C FB nc ns : Nat} {hv : Nat → Value} {can : Nat → Nat → Bool} {free f2 : Nat → Bool} {w : World} (h : Mat base n0 C FB nc ns hv can free w) (k : ∀ c, c < nc → free c = f2 c) : Mat base n0 C FB nc ns hv can f2 w :=
 ⟨h.rw_, by rw [← cellsF_congr Value.bool k]; exact h.fb, h.far, h.le⟩
set_option maxRecDepth 100000 in
set_option maxHeartbeats 16000000 in
theorem chairsOf_any (g : Grd) (p : List Ses) (pa : Option Addr) (pc : Nat) (l : List Wsh) (la : Option Addr) (lc : Nat) (mst : (Nat → Bool) → Nat → Nat) (hmst : IsMost (canN g p l) l.length p.length mst) (w : World) (hg : GRd w g) (hz : GSm g) (hp : PRg w pa p) (hpl : p.length ≤ 1000) (hpo : ∀ s ∈ p, SesOk s) (hl : SA w la l) (hll : l.length ≤ 1000) (hlo : ∀ x ∈ l, WshOk x) (hlr : ∀ x ∈ l, SA w x.a1 x.papers) :
  Calls Tryz.prog 16 #[g.agg, .slice pa p.length pc, .slice la l.length lc] w (GivesOwn 48 (chairsL g p l mst) w) := by
 have HCL1 : Hid (∀ W bg bs bc (s : Ses) (c : Wsh), Below w.heap.size w W → SesBox W bs s → GrdBox W bg g → ChrBox W bc c → Calls Tryz.prog 56 #[.slice pa p.length pc, .func (.func 57) #[] #[.pointer (some ⟨bg, 0, none⟩), .pointer (some ⟨bs, 0, none⟩), .pointer (some ⟨bc, 0, none⟩)]] W (Gives (.bool (speaksB g p s c.person)) W)) := fun W bg bs bc s c h hS hG hC => by
  have h1 := findSes_any p pa pc 57 #[.pointer (some ⟨bg, 0, none⟩), .pointer (some ⟨bs, 0, none⟩), .pointer (some ⟨bc, 0, none⟩)] (fun o => meetsB g s o && inB (speakersOf g o) c.person) W (enters_of Tryz.func57 (by kernel_rfl) rfl) (hp.below h).list (by omega) (fun o ho W' hW' => chairsOfClo1_any g s o c bs bg bc W' (hg.below (below_next h hW')) hz ((hp.below (below_next h hW')).papers o ho) (hpo o ho).2.2.1 (Box.below hS hW') (Box.below hG hW') (Box.below hC hW'))
  rwa [show p.any (fun o => meetsB g s o && inB (speakersOf g o) c.person) = speaksB g p s c.person from congrArg (fun f => p.any f) (funext fun o => by rw [meetsB_sym])] at h1
 have HCL2 : Hid (∀ W bg bc (s : Ses) (c : Wsh), Below w.heap.size w W → s ∈ p → c ∈ l → GrdBox W bg g → ChrBox W bc c → Calls Tryz.prog 61 #[.slice s.a1 s.papers.length s.c1, .func (.func 62) #[] #[.pointer (some ⟨bg, 0, none⟩), .pointer (some ⟨bc, 0, none⟩)]] W (Gives (.bool (knowsB g s c.papers)) W)) := fun W bg bc s c h hs hc hG hC =>
  findGStr_any s.papers s.a1 s.c1 62 #[.pointer (some ⟨bg, 0, none⟩), .pointer (some ⟨bc, 0, none⟩)] (fun x => sharesB (talkOr g x).topics c.papers) W (enters_of Tryz.func62 (by kernel_rfl) rfl) ((hp.below h).papers s hs) (by have := (hpo s hs).2.2.1; omega) (fun x hx W' hW' => chairsOfClo2_any g c x bg bc W' (hg.below (below_next h hW')) hz ((hlr c hc).below (below_next h hW')) (by have := (hlo c hc).2.1; omega) (Box.below hG hW') (Box.below hC hW'))
 have HP := Lib.hid (fun W (h : Below w.heap.size w W) => (hp.below h).list)
 have HL := Lib.hid (fun W (h : Below w.heap.size w W) => hl.below h)
 have HCB : Hid (∀ s c (hs : s < p.length) (hc : c < l.length), (!speaksB g p p[s] l[c].person && knowsB g p[s] l[c].papers) = canN g p l s c) := fun s c hs hc => (canN_at g hs hc).symm
 have HX : Hid (chairsL g p l mst = (chTo (canN g p l) l.length mst p.length).2.2.map (chdOf p l)) := rfl
 generalize chairsL g p l mst = R at *
 generalize canN g p l = can at *
 have hX0 : GrdBox ((w.alloc (.cells #[.slice g.ra g.rooms.length g.rc, .slice g.sa g.slots.length g.sc, .slice g.ta g.talks.length g.tc, .slice g.wa g.wishes.length g.wc, .slice g.ba g.bans.length g.bc] 32)).alloc (.cells (Array.replicate p.length (.slice none 0 0)) 96)) w.heap.size g := (Box.new w 32 #[.slice g.ra g.rooms.length g.rc, .slice g.sa g.slots.length g.sc, .slice g.ta g.talks.length g.tc, .slice g.wa g.wishes.length g.wc, .slice g.ba g.bans.length g.bc]).alloc _
 have hb0 : Below w.heap.size w ((w.alloc (.cells #[.slice g.ra g.rooms.length g.rc, .slice g.sa g.slots.length g.sc, .slice g.ta g.talks.length g.tc, .slice g.wa g.wishes.length g.wc, .slice g.ba g.bans.length g.bc] 32)).alloc (.cells (Array.replicate p.length (.slice none 0 0)) 96)) := by (repeat' (first | exact Below.refl _ _ | assumption | refine Below.setCell ?_ ?_ _ | refine below_drewN ?_ _ | refine Below.drew ?_ | refine Below.alloc ?_ ?_ _ | (with_reducible refine Below.trans ?_ (Below.mono hb ?_)) | (with_reducible refine Below.trans ?_ (Below.mono hb0 ?_)) | (with_reducible refine Below.trans ?_ (Below.mono hb1 ?_)) | (with_reducible refine Below.trans ?_ (Below.mono hb2 ?_)) | (with_reducible refine Below.trans ?_ (Below.mono hb3 ?_)) | (with_reducible refine Below.trans ?_ (Below.mono hb4 ?_)) | (with_reducible refine Below.trans ?_ (Below.mono hb5 ?_)) | (with_reducible refine Below.trans ?_ (Below.mono hb6 ?_)) | (with_reducible refine Below.trans ?_ (Below.mono hb7 ?_)) | (with_reducible refine Below.trans ?_ (Below.mono hb8 ?_)) | (with_reducible refine Below.trans ?_ (Below.mono hb9 ?_)) | (with_reducible refine Below.trans ?_ (Below.mono hb10 ?_)) | (with_reducible refine Below.trans ?_ (Below.mono hb11 ?_)) | (with_reducible refine Below.trans ?_ (Below.mono hb12 ?_)) | (with_reducible refine Below.trans ?_ (Below.mono hb13 ?_)) | (with_reducible refine Below.trans ?_ (Below.mono hb14 ?_)) | (with_reducible refine Below.trans ?_ (Below.mono hb15 ?_)) | omega | (simp; done) | (simp; omega)))
 have hR0 : Rws (w.heap.size + 1 + 1) 4 96 (w.heap.size + 1) p.length (fun _ => .slice none 0 0) (fun _ => ([] : List Bool)) ((w.alloc (.cells #[.slice g.ra g.rooms.length g.rc, .slice g.sa g.slots.length g.sc, .slice g.ta g.talks.length g.tc, .slice g.wa g.wishes.length g.wc, .slice g.ba g.bans.length g.bc] 32)).alloc (.cells (Array.replicate p.length (.slice none 0 0)) 96)) := by
  refine ⟨?_, fun i _ => Own.nil _ _ _, fun i j _ _ _ x hx => (by cases hx), by omega⟩
  rw [cellsF_rep id (Value.slice none 0 0)]
  exact Box.newAt _ _ _ _ (by simp)
 have hz0 : w.heap.size + 1 + 1 ≤ ((w.alloc (.cells #[.slice g.ra g.rooms.length g.rc, .slice g.sa g.slots.length g.sc, .slice g.ta g.talks.length g.tc, .slice g.wa g.wishes.length g.wc, .slice g.ba g.bans.length g.bc] 32)).alloc (.cells (Array.replicate p.length (.slice none 0 0)) 96)).heap.size := by simp
 clear hg hz hp hpo hl hlo hlr
 rw [Grd.agg_eq] at *
 have hmkL := run_make_len (P := Tryz.prog) 106 96 (.slice none 0 0) 24 (by kernel_rfl) infoBoolL rfl p.length (by omega) (by omega)
 have hmkB := run_make_len (P := Tryz.prog) 96 4 (.bool false) 1 (by kernel_rfl) infoBoolR rfl l.length (by omega) (by omega)
 go_enter Tryz.func16, Tryz.ntmps16
 go_wp2_with fail
 clear hmkL
 have Hmk := Lib.hid hmkB
 clear hmkB
 generalize ((w.alloc (.cells #[.slice g.ra g.rooms.length g.rc, .slice g.sa g.slots.length g.sc, .slice g.ta g.talks.length g.tc, .slice g.wa g.wishes.length g.wc, .slice g.ba g.bans.length g.bc] 32)).alloc (.cells (Array.replicate p.length (.slice none 0 0)) 96)) = W0 at *
 obtain ⟨bG, hbG⟩ : ∃ bG, bG = w.heap.size := ⟨_, rfl⟩
 obtain ⟨C, hC⟩ : ∃ C, C = w.heap.size + 1 := ⟨_, rfl⟩
 obtain ⟨base, hbase⟩ : ∃ base, base = w.heap.size + 1 + 1 := ⟨_, rfl⟩
 rw [← hC]
 rw [← hbase, ← hC] at hR0
 rw [← hbase] at hz0
 have hX1 : GrdBox W0 bG g := by rw [hbG]; exact hX0
 have hbGs : bG < base := by omega
 have hCs : w.heap.size ≤ C := by omega
 have hbs0 : w.heap.size < base := by omega
 have hGC : bG ≠ C := by omega
 have hCw : w.heap.size < C := by omega
 rw [← hbG]
 clear hX0 hbG hC hbase
 go_loopg [27] p.length (fun gk iv wr => ∃ (k : Nat) (hv : Nat → Value) (r : Nat → List Bool), iv = .int .i64 k ∧ k ≤ p.length ∧ Hid (gk = p.length - k) ∧ Rws base 4 96 C p.length hv r wr ∧ Hid (EqR can l.length p.length k 0 r) ∧ GrdBox wr bG g ∧ Below w.heap.size w wr ∧ base ≤ wr.heap.size)
 case atStart => exact ⟨0, _, _, rfl, by omega, rfl, hR0, (fun s hs => by rw [if_neg (by omega)]; split <;> rfl), hX1, hb0, hz0⟩
 case round =>
  clear hR0 hX1 hb0 hz0
  obtain ⟨k, hv, r, rfl, hk, hgk, hR, hq, hG, hb, hbs⟩ := hrel
  by_cases hlt : k < p.length
  ·
   obtain ⟨sb, so, ha, c0, c1, c2⟩ := (HP.out _ hb).sesC hlt
   have hxm : p[k] ∈ p := List.getElem_mem hlt
   have HCB2 := Lib.hid (fun c hc => HCB.out k c hlt hc)
   have Ha := Lib.hid ha
   rw [ha]
   clear ha
   generalize p[k] = s at *
   have HA1 := Lib.hid (fun W bc c h hS hG hC => HCL1.out W bG wr.heap.size bc s c h hS hG hC)
   have HA2 := Lib.hid (fun W bc c h hc hG hC => HCL2.out W bG bc s c h hxm hc hG hC)
   clear hxm
   obtain ⟨s1, s2, s3, s4, s5⟩ := s
   simp only at c0 c1 c2
   go_upto_region 5 with (fail)
   have hS : SesBox (wr.alloc (.cells #[.string s1, .string s2, .slice s4 s3.length s5] 86)) wr.heap.size ⟨s1, s2, s3, s4, s5⟩ := Box.new wr 86 #[.string s1, .string s2, .slice s4 s3.length s5]
   have hbS : Below wr.heap.size wr (wr.alloc (.cells #[.string s1, .string s2, .slice s4 s3.length s5] 86)) := (Below.refl _ _).alloc (Nat.le_refl _) _
   have hR1 := hR.below hbS
   have hG1 : GrdBox _ bG g := Box.below hG hbS
   have hb1 := below_next hb hbS
   have hbs1 := Nat.le_trans hbs hbS.size
   have hfr : Hid (∀ i, i < p.length → ∀ x, (hv i).ownBlock = some x → x ≠ wr.heap.size) := fun i hi x hx => by have := ((hR.own i hi).lt x hx).2; omega
   have hSb : base ≤ wr.heap.size := hbs
   clear hR hG hb hbs hbS c0 c1 c2
   generalize wr.alloc (.cells #[.string s1, .string s2, .slice s4 s3.length s5] 86) = wS at *
   generalize wr.heap.size = bS at *
   go_wp2_with fail
   go_loopg [34] l.length (fun gj jv wr => ∃ (j : Nat) (hv : Nat → Value) (r : Nat → List Bool), jv = .int .i64 j ∧ j ≤ l.length ∧ Hid (gj = l.length - j) ∧ Rws base 4 96 C p.length hv r wr ∧ Hid (EqR can l.length p.length k j r) ∧ GrdBox wr bG g ∧ Below w.heap.size w wr ∧ base ≤ wr.heap.size ∧ SesBox wr bS ⟨s1, s2, s3, s4, s5⟩ ∧ Hid (∀ i, i < p.length → ∀ x, (hv i).ownBlock = some x → x ≠ bS))
   case atStart => exact ⟨0, _, _, rfl, by omega, rfl, hR1, hq.out, hG1, hb1, hbs1, hS, hfr.out⟩
   case round =>
    clear hR1 hq hG1 hb1 hbs1 hS hfr hv r
    obtain ⟨j, hv, r, rfl, hj, hgj, hR, hq, hG, hb, hbs, hS, hfr⟩ := hrel
    by_cases hjl : j < l.length
    ·
     obtain ⟨cb, co, hca, d0, d1⟩ := (HL.out _ hb).wshC hjl
     have hcm : l[j] ∈ l := List.getElem_mem hjl
     have HQ := Lib.hid (HCB2.out j hjl)
     have Hca := Lib.hid hca
     rw [hca]
     clear hca
     generalize l[j] = c at *
     have HB1 := Lib.hid (fun W bc h hS hG hC => HA1.out W bc c h hS hG hC)
     have HB2 := Lib.hid (fun W bc h hG hC => HA2.out W bc c h hcm hG hC)
     clear hcm
     obtain ⟨y1, y2, y3, y4⟩ := c
     simp only at d0 d1 HB1 HB2 HQ
     go_upto_region 8 with (fail)
     have hK : ChrBox (wr.alloc (.cells #[.string y1, .slice y3 y2.length y4] 90)) wr.heap.size ⟨y1, y2, y3, y4⟩ := Box.new wr 90 #[.string y1, .slice y3 y2.length y4]
     have hbK : Below wr.heap.size wr (wr.alloc (.cells #[.string y1, .slice y3 y2.length y4] 90)) := (Below.refl _ _).alloc (Nat.le_refl _) _
     have hR1 := hR.below hbK
     have hG1 : GrdBox _ bG g := Box.below hG hbK
     have hS1 : SesBox _ bS ⟨s1, s2, s3, s4, s5⟩ := Box.below hS hbK
     have hb1 := below_next hb hbK
     have hbs1 := Nat.le_trans hbs hbK.size
     clear hR hG hb hbs hbK hS d0 d1
     generalize wr.alloc (.cells #[.string y1, .slice y3 y2.length y4] 90) = wK at *
     generalize wr.heap.size = bK at *
     have HD1 := Lib.hid (HB1.out _ _ hb1 hS1 hG1 hK)
     rw [Ha.out] at HD1
     clear HB1
     generalize speaksB g p ⟨s1, s2, s3, s4, s5⟩ y1 = sp at *
     generalize knowsB g ⟨s1, s2, s3, s4, s5⟩ y2 = kn at *
     go_wp2_with fail
     refine HD1.out.mono ?_
     rintro e w5 ⟨rfl, hb5⟩
     have hR2 := hR1.below hb5
     have hG2 : GrdBox _ bG g := Box.below hG1 hb5
     have hS2 : SesBox _ bS ⟨s1, s2, s3, s4, s5⟩ := Box.below hS1 hb5
     have hK2 : ChrBox _ bK ⟨y1, y2, y3, y4⟩ := Box.below hK hb5
     have hb2 := below_next hb1 hb5
     have hbs2 := Nat.le_trans hbs1 hb5.size
     have s_2 : w5.cell? ⟨bS, 2, none⟩ = some (.slice s4 s3.length s5) := Box.cell hS2 2
     have HD2 := Lib.hid (HB2.out _ _ hb2 hG2 hK2)
     clear HD1 hR1 hG1 hS1 hK hb1 hbs1 hb5 HB2
     go_wp2_with fail
     refine HD2.out.mono ?_
     rintro e w6 ⟨rfl, hb6⟩
     have hR3 := hR2.below hb6
     have hG3 : GrdBox _ bG g := Box.below hG2 hb6
     have hS3 : SesBox _ bS ⟨s1, s2, s3, s4, s5⟩ := Box.below hS2 hb6
     have hb3 := below_next hb2 hb6
     have hbs3 := Nat.le_trans hbs2 hb6.size
     clear HD2 hR2 hG2 hS2 hK2 hb2 hbs2 hb6 s_2
     cases sp
     ·
      have HQ2 : Hid (kn = can k j) := HQ.out
      have hrl : (r k).length ≤ 2000 := by rw [hq.out k hlt, if_neg (by omega), if_pos rfl, List.length_map, List.length_range]; omega
      have hj0 : (0 : Int) ≤ (j : Int) := by omega
      have hk0 : (0 : Int) ≤ (k : Int) := by omega
      have hk2 : (k : Int) < (p.length : Int) := by omega
      have hC0 := hR3.box.cellF hlt
      simp only [id] at hC0
      have hlow := hR3.low
      have hbY : Below w6.heap.size w6 (w6.alloc (.cells #[.bool kn] 4)) := (Below.refl w6.heap.size w6).alloc (Nat.le_refl _) _
      have hR5 := hR3.below hbY
      have hG5 : GrdBox _ bG g := Box.below hG3 hbY
      have hS5 : SesBox _ bS ⟨s1, s2, s3, s4, s5⟩ := Box.below hS3 hbY
      have hb9 := below_next hb3 hbY
      have hbs5 := Nat.le_trans hbs3 hbY.size
      have hSl5 := Box.lt hS5
      clear hR3 hG3 hS3 hb3 hbs3 hbY HQ
      go_wp2_with (at_builtin; refine wpList_append_lie (α := Bool) rfl _ _ 96 rfl 4 1 (.bool false) Tryz.underlying96 infoBoolR rfl _ (r k) rfl (hR5.own k hlt) kn _ rfl (Box.new _ _ _) (by omega) (by omega) (by omega) ?_; intro g8 cap8 w8 hown8 hg8 hat8; have hk8 : Kp (fun x => (hv k).ownBlock = some x) _ w8 := (Kp.refl (fun x => (hv k).ownBlock = some x) _).grown hg8 (fun x hx => .inl hx); have hnA : ∀ x, x < base → ¬ (hv k).ownBlock = some x := (fun x hx e => by have := ((hR5.own k hlt).lt x e).1; omega); have hbA8 := hR5.box.kp hk8 (hnA _ hlow); have hc8 := hbA8.cellF hlt; have hf8 := hbA8.frozen k; simp only [id] at hc8)
      have hR6 := hR5.push hlt hown8 hg8 (atNew hat8)
      have hkT := hR5.pushed (v' := .slice (some ⟨g8, 0, none⟩) ((r k).length + 1) cap8) hlt hg8
      have hnG : ∀ x, ((hv k).ownBlock = some x ∨ x = C) → w.heap.size ≤ x := fun x hx => by
       rcases hx with hx | hx
       ·
        have := ((hR5.own k hlt).lt x hx).1; omega
       ·
        omega
      have hS6 : SesBox _ bS ⟨s1, s2, s3, s4, s5⟩ := Box.kp hS5 hkT (fun e => by rcases e with e | e; exact hfr.out k hlt _ e rfl; omega)
      have hG6 : GrdBox _ bG g := Box.kp hG5 hkT (fun e => by rcases e with e | e; (have := ((hR5.own k hlt).lt _ e).1; omega); exact hGC e)
      have hbs6 := Nat.le_trans hbs5 hkT.size
      have hb10 := belowKp hb9 hkT hnG hb9.size
      have hfr2 : Hid (∀ i, i < p.length → ∀ x, (upd hv k (.slice (some ⟨g8, 0, none⟩) ((r k).length + 1) cap8) i).ownBlock = some x → x ≠ bS) := fun i hi x hx => by
       by_cases e : i = k
       ·
        subst e
        rw [upd_at] at hx
        rcases atNew hat8 x hx with h1 | h1
        ·
         exact hfr.out i hi x h1
        ·
         omega
       ·
        rw [upd_ne _ _ e] at hx
        exact hfr.out i hi x hx
      have hq2 := Lib.hid (hq.out.put hlt HQ2.out)
      clear hR5 hG5 hS5 hb9 hbs5 hg8 hown8 hat8 hk8 hnA hbA8 hc8 hf8 hkT hfr hq hSl5 hnG HQ2
      go_wp2_with fail
      rw [← Hca.out]
      go_roundg (l.length - (j + 1))
      case measure => have := hgj.out; omega
      case rel => exact ⟨j + 1, _, _, by go_num, by omega, rfl, hR6, hq2.out, hG6, hb10, hbs6, hS6, hfr2.out⟩
     ·
      have HQ2 : Hid (false = can k j) := HQ.out
      have hrl : (r k).length ≤ 2000 := by rw [hq.out k hlt, if_neg (by omega), if_pos rfl, List.length_map, List.length_range]; omega
      have hj0 : (0 : Int) ≤ (j : Int) := by omega
      have hk0 : (0 : Int) ≤ (k : Int) := by omega
      have hk2 : (k : Int) < (p.length : Int) := by omega
      have hC0 := hR3.box.cellF hlt
      simp only [id] at hC0
      have hlow := hR3.low
      have hbY : Below w6.heap.size w6 (w6.alloc (.cells #[.bool false] 4)) := (Below.refl w6.heap.size w6).alloc (Nat.le_refl _) _
      have hR5 := hR3.below hbY
      have hG5 : GrdBox _ bG g := Box.below hG3 hbY
      have hS5 : SesBox _ bS ⟨s1, s2, s3, s4, s5⟩ := Box.below hS3 hbY
      have hb9 := below_next hb3 hbY
      have hbs5 := Nat.le_trans hbs3 hbY.size
      have hSl5 := Box.lt hS5
      clear hR3 hG3 hS3 hb3 hbs3 hbY HQ
      go_wp2_with (at_builtin; refine wpList_append_lie (α := Bool) rfl _ _ 96 rfl 4 1 (.bool false) Tryz.underlying96 infoBoolR rfl _ (r k) rfl (hR5.own k hlt) false _ rfl (Box.new _ _ _) (by omega) (by omega) (by omega) ?_; intro g8 cap8 w8 hown8 hg8 hat8; have hk8 : Kp (fun x => (hv k).ownBlock = some x) _ w8 := (Kp.refl (fun x => (hv k).ownBlock = some x) _).grown hg8 (fun x hx => .inl hx); have hnA : ∀ x, x < base → ¬ (hv k).ownBlock = some x := (fun x hx e => by have := ((hR5.own k hlt).lt x e).1; omega); have hbA8 := hR5.box.kp hk8 (hnA _ hlow); have hc8 := hbA8.cellF hlt; have hf8 := hbA8.frozen k; simp only [id] at hc8)
      have hR6 := hR5.push hlt hown8 hg8 (atNew hat8)
      have hkT := hR5.pushed (v' := .slice (some ⟨g8, 0, none⟩) ((r k).length + 1) cap8) hlt hg8
      have hnG : ∀ x, ((hv k).ownBlock = some x ∨ x = C) → w.heap.size ≤ x := fun x hx => by
       rcases hx with hx | hx
       ·
        have := ((hR5.own k hlt).lt x hx).1; omega
       ·
        omega
      have hS6 : SesBox _ bS ⟨s1, s2, s3, s4, s5⟩ := Box.kp hS5 hkT (fun e => by rcases e with e | e; exact hfr.out k hlt _ e rfl; omega)
      have hG6 : GrdBox _ bG g := Box.kp hG5 hkT (fun e => by rcases e with e | e; (have := ((hR5.own k hlt).lt _ e).1; omega); exact hGC e)
      have hbs6 := Nat.le_trans hbs5 hkT.size
      have hb10 := belowKp hb9 hkT hnG hb9.size
      have hfr2 : Hid (∀ i, i < p.length → ∀ x, (upd hv k (.slice (some ⟨g8, 0, none⟩) ((r k).length + 1) cap8) i).ownBlock = some x → x ≠ bS) := fun i hi x hx => by
       by_cases e : i = k
       ·
        subst e
        rw [upd_at] at hx
        rcases atNew hat8 x hx with h1 | h1
        ·
         exact hfr.out i hi x h1
        ·
         omega
       ·
        rw [upd_ne _ _ e] at hx
        exact hfr.out i hi x hx
      have hq2 := Lib.hid (hq.out.put hlt HQ2.out)
      clear hR5 hG5 hS5 hb9 hbs5 hg8 hown8 hat8 hk8 hnA hbA8 hc8 hf8 hkT hfr hq hSl5 hnG HQ2
      go_wp2_with fail
      rw [← Hca.out]
      go_roundg (l.length - (j + 1))
      case measure => have := hgj.out; omega
      case rel => exact ⟨j + 1, _, _, by go_num, by omega, rfl, hR6, hq2.out, hG6, hb10, hbs6, hS6, hfr2.out⟩
    ·
     obtain rfl : j = l.length := by omega
     have hq3 := Lib.hid hq.out.next
     clear hq
     go_wp2_with fail
     rw [← Ha.out]
     go_roundg (p.length - (k + 1))
     case measure => have := hgk.out; omega
     case rel => exact ⟨k + 1, hv, r, by go_num, by omega, rfl, hR, hq3.out, hG, hb, hbs⟩
  ·
   obtain rfl : k = p.length := by omega
   have hRr := hR.same (r2 := rowR can l.length) (fun i hi => by rw [hq.out i hi, if_pos hi])
   have hbF : Below wr.heap.size wr (wr.alloc (.cells (Array.replicate l.length (.bool false)) 4)) := (Below.refl _ _).alloc (Nat.le_refl _) _
   have hMa0 : Mat base (wr.heap.size + 1) C wr.heap.size l.length p.length hv can (fun c => decide (c < 0)) (wr.alloc (.cells (Array.replicate l.length (.bool false)) 4)) := by
    refine ⟨hRr.below hbF, ?_, fun i hi x hx => ((hR.own i hi).lt x hx).2, hbs, by omega⟩
    rw [cellsF_congr (g := fun _ => false) Value.bool (fun i _ => decide_eq_false (by omega)), cellsF_rep Value.bool false]
    exact Box.new _ _ _
   have hb1 := below_next hb hbF
   have hs1 : wr.heap.size + 1 ≤ (wr.alloc (.cells (Array.replicate l.length (.bool false)) 4)).heap.size := by simp
   have hmkB := Hmk.out
   clear hR hRr hq hG hbF hgk hlt hk HCL1 HCL2 HCB hb
   go_wp2_with fail
   clear hmkB Hmk
   generalize wr.alloc (.cells (Array.replicate l.length (.bool false)) 4) = wF at *
   generalize hn0 : wr.heap.size + 1 = n0 at *
   have hn0b : base < n0 := by omega
   clear hbs hn0
   generalize wr.heap.size = FB at *
   go_loopg [66] l.length (fun gk iv wr => ∃ j : Nat, iv = .int .i64 j ∧ j ≤ l.length ∧ Hid (gk = l.length - j) ∧ Mat base n0 C FB l.length p.length hv can (fun c => decide (c < j)) wr ∧ Below w.heap.size w wr ∧ n0 ≤ wr.heap.size)
   case atStart => exact ⟨0, rfl, by omega, rfl, hMa0, hb1, hs1⟩
   case round =>
    clear hMa0 hb1 hs1
    obtain ⟨j, rfl, hj, hgj, hMa, hb, hsz⟩ := hrel
    by_cases hjl : j < l.length
    ·
     have u0 := hMa.fb.cellF hjl
     have u1 := hMa.fb.frozen j
     have hMa2 := (hMa.set j true).same (f2 := fun c => decide (c < j + 1)) (fun c _ => by
      by_cases e : c = j
      ·
       subst e; rw [upd_at]; exact (decide_eq_true (by omega)).symm
      ·
       rw [upd_ne _ _ e]
       by_cases e2 : c < j
       ·
        rw [decide_eq_true e2, decide_eq_true (by omega)]
       ·
        rw [decide_eq_false e2, decide_eq_false (by omega)])
     have hkF : Kp (fun x => x = FB) wr (wr.setCell ⟨FB, j, none⟩ (.bool true)) := (Kp.refl (fun x => x = FB) wr).setCell (p := ⟨FB, j, none⟩) (.inl rfl) _
     have hle := hMa.le.1
     have hb2 := belowKp hb hkF (fun x e => by omega) hb.size
     have hsz2 := Nat.le_trans hsz hkF.size
     have hj0 : (0 : Int) ≤ (j : Int) := by omega
     have hj2 : (j : Int) < (l.length : Int) := by omega
     clear hMa hb hsz hkF
     go_wp2_with fail
     go_roundg (l.length - (j + 1))
     case measure => have := hgj.out; omega
     case rel => exact ⟨j + 1, by go_num, by omega, rfl, hMa2, hb2, hsz2⟩
    ·
     obtain rfl : j = l.length := by omega
     have hMa1 := hMa.same (f2 := fun c => !(fun _ => false : Nat → Bool) c) (fun c hc => decide_eq_true hc)
     have HMT : Hid (∀ W us k, Mat base n0 C FB l.length p.length hv can (fun c => !us c) W → k ≤ p.length → Calls Tryz.prog 65 #[.slice (some ⟨C, 0, none⟩) p.length p.length, .int .i64 (k : Nat), .slice (some ⟨FB, 0, none⟩) l.length l.length] W (Gives (.int .i64 (mst us k : Nat)) W)) := fun W us k h hk => by
      refine (matched_any (by omega) (by omega) hk W h.fb h.rw_).mono ?_
      rintro e w' ⟨n, o, rfl, hru, -, hb⟩
      have e1 := runs_mostR hmst (fun c _ => rfl) hru
      exact ⟨by rw [e1], hb⟩
     have HC0 : Hid (chTo can l.length mst 0 = (fun _ => false, mst (fun _ => false) 0, [])) := rfl
     have HCNo := Lib.hid (fun k h => @chTo_none can l.length mst k h)
     have HCSo := Lib.hid (fun k c h => @chTo_some can l.length mst k c h)
     have HCL := Lib.hid (chTo_len can l.length mst)
     have HCF2 := Lib.hid (chTo_left can l.length mst (most_le hmst (fun _ => false) 0))
     have HBE : Hid (∀ k us lf, chBest can l.length mst k us lf = (List.range l.length).find? (fun c => can k c && (!us c && decide (mst (upd us c true) (k + 1) + 1 = lf)))) := fun k us lf => rfl
     have HML := Lib.hid (fun us k => most_le hmst us k)
     generalize chTo can l.length mst = ct at *
     have HM1 := Lib.hid (HMT.out wr (fun _ => false) 0 hMa1 (Nat.zero_le _))
     have HMF := Lib.hid hMa1
     clear hmst hMa hMa1
     go_wp2_with fail
     refine HM1.out.mono ?_
     rintro e w6 ⟨rfl, hb6⟩
     have hMa2 := HMF.out.below hb6
     have hb2 := below_next hb hb6
     have hsz2 := Nat.le_trans hsz hb6.size
     clear HM1 HMF hb hsz hb6 hgj hjl hj
     go_wp2_with fail
     go_loopg [78, 17, 16] p.length (fun gk iv lv ov wr => ∃ (k : Nat) (v : Value), v = ov ∧ iv = .int .i64 k ∧ lv = .int .i64 ((ct k).2.1 : Nat) ∧ k ≤ p.length ∧ Hid (gk = p.length - k) ∧ Mat base n0 C FB l.length p.length hv can (fun c => !(ct k).1 c) wr ∧ Own n0 48 wr v ((ct k).2.2.map (chdOf p l)) ∧ Below w.heap.size w wr ∧ n0 ≤ wr.heap.size)
     case atStart => exact ⟨0, _, rfl, rfl, by rw [HC0.out], by omega, rfl, by rw [HC0.out]; exact hMa2, by rw [HC0.out]; exact Own.nil _ _ _, hb2, hsz2⟩
     case round =>
      clear hMa2 hb2 hsz2
      obtain ⟨k, v, rfl, rfl, rfl, hk, hgk, hMa, hown, hb, hsz⟩ := hrel
      by_cases hlt : k < p.length
      ·
       obtain ⟨sb, so, ha, c0, c1, c2⟩ := (HP.out _ hb).sesC hlt
       have HNx := Lib.hid (HCNo.out k)
       have HSx := Lib.hid (fun c h => HCSo.out k c h)
       have hal := HCL.out k
       have hlf := HCF2.out k
       have HDx := Lib.hid (fun c (hc : c < l.length) => chdOf_at (p := p) (l := l) hlt hc)
       have Ha := Lib.hid ha
       rw [ha]
       clear ha
       rw [HBE.out] at HNx HSx
       generalize hct : ct k = st at *
       obtain ⟨us, lf, acc⟩ := st
       simp only at hMa hown hal hlf HNx HSx
       generalize p[k] = x at *
       obtain ⟨s1, s2, s3, s4, s5⟩ := x
       simp only at c0 c1 c2 HDx
       have hk0 : (0 : Int) ≤ (k : Int) := by omega
       have hk2 : (k : Int) < (p.length : Int) := by omega
       have hkw : IntKind.i64.wrap ((k : Int) + 1) = ((k + 1 : Nat) : Int) := by rw [IntWalk.i64_in _ (by omega)]; omega
       go_upto_region 24 with (fail)
       have hS : SesBox (wr.alloc (.cells #[.string s1, .string s2, .slice s4 s3.length s5] 86)) wr.heap.size ⟨s1, s2, s3, s4, s5⟩ := Box.new wr 86 #[.string s1, .string s2, .slice s4 s3.length s5]
       have hbS : Below wr.heap.size wr (wr.alloc (.cells #[.string s1, .string s2, .slice s4 s3.length s5] 86)) := (Below.refl _ _).alloc (Nat.le_refl _) _
       have hMa1 := hMa.below hbS
       have hown1 := hown.below hbS
       have hb1 := below_next hb hbS
       have hsz1 := Nat.le_trans hsz hbS.size
       have hSn : n0 ≤ wr.heap.size := hsz
       have hvS : ¬ v.ownBlock = some wr.heap.size := fun e => by have := (hown.lt _ e).2; omega
       clear hMa hown hb hsz hbS c0 c1 c2
       generalize wr.alloc (.cells #[.string s1, .string s2, .slice s4 s3.length s5] 86) = wS at *
       generalize wr.heap.size = bS at *
       have HvS : Hid (v.ownBlock ≠ some bS) := fun e => hvS e
       clear hvS
       go_wp2_with fail
       go_loopg [85, 17, 16] l.length (fun gj jv lv ov wr => ∃ (j : Nat), lv = .int .i64 (lf : Nat) ∧ v = ov ∧ jv = .int .i64 j ∧ j ≤ l.length ∧ Hid (gj = l.length - j) ∧ Hid (∀ i, i < j → (can k i && (!us i && decide (mst (upd us i true) (k + 1) + 1 = lf))) = false) ∧ Mat base n0 C FB l.length p.length hv can (fun c => !us c) wr ∧ Own n0 48 wr v (acc.map (chdOf p l)) ∧ Below w.heap.size w wr ∧ n0 ≤ wr.heap.size ∧ SesBox wr bS ⟨s1, s2, s3, s4, s5⟩)
       case atStart => exact ⟨0, rfl, rfl, rfl, by omega, rfl, (fun i hi => by omega), hMa1, hown1, hb1, hsz1, hS⟩
       case round =>
        clear hMa1 hown1 hb1 hsz1 hS
        obtain ⟨j, rfl, rfl, rfl, hj, hgj, hno, hMa, hown, hb, hsz, hS⟩ := hrel
        by_cases hjl : j < l.length
        ·
         obtain ⟨cb, co, hca, d0, d1⟩ := (HL.out _ hb).wshC hjl
         have Hca := Lib.hid hca
         have HDc := Lib.hid (HDx.out j hjl)
         have Hnn : Hid ((can k j && (!us j && decide (mst (upd us j true) (k + 1) + 1 = lf))) = false → ∀ i, i < j + 1 → (can k i && (!us i && decide (mst (upd us i true) (k + 1) + 1 = lf))) = false) := fun h0 i hi => by
          by_cases e : i = j
          ·
           subst e; exact h0
          ·
           exact hno.out i (by omega)
         have Hyy : Hid ((can k j && (!us j && decide (mst (upd us j true) (k + 1) + 1 = lf))) = true → ct (k + 1) = (upd us j true, lf - 1, acc ++ [(k, j)])) := fun h0 => HSx.out j (by
          have h1 := find_at (l := List.range l.length) (p := fun c => (can k c && (!us c && decide (mst (upd us c true) (k + 1) + 1 = lf)))) (k := j) (by rw [List.length_range]; exact hjl) (fun i hi hij => by rw [List.getElem_range]; exact hno.out i hij) (by rw [List.getElem_range]; exact h0)
          rwa [List.getElem_range] at h1)
         rw [hca]
         clear hca
         generalize l[j] = c at *
         obtain ⟨y1, y2, y3, y4⟩ := c
         simp only at d0 d1 HDc
         go_upto_region 27 with (fail)
         have hK : ChrBox (wr.alloc (.cells #[.string y1, .slice y3 y2.length y4] 90)) wr.heap.size ⟨y1, y2, y3, y4⟩ := Box.new wr 90 #[.string y1, .slice y3 y2.length y4]
         have hbK : Below wr.heap.size wr (wr.alloc (.cells #[.string y1, .slice y3 y2.length y4] 90)) := (Below.refl _ _).alloc (Nat.le_refl _) _
         have hMa1 := hMa.below hbK
         have hown1 := hown.below hbK
         have hS1 : SesBox _ bS ⟨s1, s2, s3, s4, s5⟩ := Box.below hS hbK
         have hb1 := below_next hb hbK
         have hsz1 := Nat.le_trans hsz hbK.size
         have hvK : Hid (v.ownBlock ≠ some wr.heap.size) := fun e => by have := (hown.lt _ e).2; omega
         have hKn : n0 ≤ wr.heap.size := hsz
         clear hMa hown hb hsz hbK hS d0 d1
         generalize wr.alloc (.cells #[.string y1, .slice y3 y2.length y4] 90) = wK at *
         generalize wr.heap.size = bK at *
         have hj0 : (0 : Int) ≤ (j : Int) := by omega
         have hj2 : (j : Int) < (l.length : Int) := by omega
         have hrl : (rowR can l.length k).length = l.length := by unfold rowR; rw [List.length_map, List.length_range]
         obtain ⟨ra, rcp, hvk, hsa, -, -⟩ := (hMa1.rw_.own k hlt).form
         have hC0 := hMa1.rw_.box.cellF hlt
         simp only [id] at hC0
         obtain ⟨rb, ro, hra, r0⟩ := hsa.boolC (i := j) (by rw [hrl]; exact hjl)
         have e0 : (rowR can l.length k)[j]'(by rw [hrl]; exact hjl) = can k j := by unfold rowR; rw [List.getElem_map, List.getElem_range]
         rw [e0] at r0
         rw [hvk, hrl, hra] at hC0
         clear hvk hsa hra e0 hrl
         have u0 := hMa1.fb.cellF hjl
         have u1 := hMa1.fb.frozen j
         cases hcn : can k j
         ·
          rw [hcn] at r0
          have Hn2 := Lib.hid (Hnn.out (by rw [hcn]; rfl))
          clear Hnn Hyy
          go_wp2_with fail
          rw [← Hca.out]
          go_roundg (l.length - (j + 1))
          case measure => have := hgj.out; omega
          case rel => exact ⟨j + 1, rfl, rfl, by go_num, by omega, rfl, Hn2.out, hMa1, hown1, hb1, hsz1, hS1⟩
         ·
          rw [hcn] at r0
          cases husj : us j
          ·
           rw [husj] at u0
           simp only [Bool.not_false] at u0
           have hMa3 := (hMa1.set j false).same (f2 := fun c => !(upd us j true) c) (fun c _ => by
            by_cases e : c = j
            ·
             subst e; rw [upd_at, upd_at]; rfl
            ·
             rw [upd_ne _ _ e, upd_ne _ _ e])
           have hkF : Kp (fun x => x = FB) wK (wK.setCell ⟨FB, j, none⟩ (.bool false)) := (Kp.refl (fun x => x = FB) wK).setCell (p := ⟨FB, j, none⟩) (.inl rfl) _
           have hle := hMa1.le
           have hS3 : SesBox _ bS ⟨s1, s2, s3, s4, s5⟩ := Box.kp hS1 hkF (fun e => by omega)
           have hK3 : ChrBox _ bK ⟨y1, y2, y3, y4⟩ := Box.kp hK hkF (fun e => by omega)
           have hown3 := hown1.kp hkF (fun x hx e => by have := (hown1.lt x hx).1; omega)
           have hb3 := belowKp hb1 hkF (fun x e => by omega) hb1.size
           have hsz3 := Nat.le_trans hsz1 hkF.size
           have HC := Lib.hid (HMT.out _ (upd us j true) (k + 1) hMa3 (by omega))
           have HMk := Lib.hid hMa3
           clear hMa1 hown1 hb1 hsz1 hS1 hK hkF hMa3
           have hmm := HML.out (upd us j true) (k + 1)
           have hw2 : IntKind.i64.wrap (1 + ((mst (upd us j true) (k + 1) : Nat) : Int)) = 1 + ((mst (upd us j true) (k + 1) : Nat) : Int) := IntWalk.i64_in _ (by omega)
           have hwl : IntKind.i64.wrap ((lf : Int) - 1) = (lf : Int) - 1 := IntWalk.i64_in _ (by omega)
           go_wp2_with fail
           refine HC.out.mono ?_
           rintro e w7 ⟨rfl, hb7⟩
           have hMa4 := HMk.out.below hb7
           have hS4 : SesBox _ bS ⟨s1, s2, s3, s4, s5⟩ := Box.below hS3 hb7
           have hK4 : ChrBox _ bK ⟨y1, y2, y3, y4⟩ := Box.below hK3 hb7
           have hown4 := hown3.below hb7
           have hb4 := below_next hb3 hb7
           have hsz4 := Nat.le_trans hsz3 hb7.size
           clear HMk hS3 hK3 hown3 hb3 hsz3 hb7 HC r0 hC0 u0 u1
           by_cases hmq : mst (upd us j true) (k + 1) + 1 = lf
           ·
            have hd : ((1 + ((mst (upd us j true) (k + 1) : Nat) : Int)) == (lf : Int)) = true := by rw [beq_iff_eq]; omega
            have Hst := Lib.hid (Hyy.out (by rw [hcn, husj, hmq]; simp))
            have s_0 : w7.cell? ⟨bS, 0, none⟩ = some (.string s1) := Box.cell hS4 0
            have s_1 : w7.cell? ⟨bS, 1, none⟩ = some (.string s2) := Box.cell hS4 1
            have k_0 : w7.cell? ⟨bK, 0, none⟩ = some (.string y1) := Box.cell hK4 0
            have hlen : (acc.map (chdOf p l)).length ≤ 1000 := by rw [List.length_map]; omega
            have hol := hown4.lt
            have hwl2 : ((lf : Int) - 1) = ((lf - 1 : Nat) : Int) := by omega
            have Hwl2 := Lib.hid hwl2
            clear Hyy Hnn hno hmq HNx HSx hwl2
            go_wp2_with (at_builtin; refine wpList_append_lie (α := Chd) rfl _ _ 38 rfl 48 48 (.agg #[.string ⟨#[]⟩, .string ⟨#[]⟩, .string ⟨#[]⟩]) Tryz.underlying38 infoChd rfl v (acc.map (chdOf p l)) rfl (hown4.alloc (.cells #[.string s1, .string s2, .string y1] 48)) (s1, s2, y1) _ rfl (Box.new _ _ _) (by omega) (by omega) (by simp; omega) ?_; intro g9 cap9 w9 hown9 hg9 hat9)
            have hk9 : Kp (fun x => v.ownBlock = some x) w7 w9 := ((Kp.refl (fun x => v.ownBlock = some x) w7).alloc (.cells #[.string s1, .string s2, .string y1] 48)).grown hg9 (fun x hx => .inl hx)
            have hMa9 := hMa4.kp hk9 (fun x hx => (hol x hx).1)
            have hb9 := belowKp hb4 hk9 (fun x hx => by have := (hol x hx).1; omega) hb4.size
            have hsz9 := Nat.le_trans hsz4 hk9.size
            rw [← HDc.out] at hown9
            have hown10 : Own n0 48 w9 (.slice (some ⟨g9, 0, none⟩) ((acc.map (chdOf p l)).length + 1) cap9) ((acc ++ [(k, j)]).map (chdOf p l)) := by
             rw [List.map_append]; exact hown9
            clear hg9 hat9 hown9 hk9 hMa4 hown4 hb4 hsz4 hS4 hK4 s_0 s_1 k_0 hol hlen
            go_wp2_with fail
            rw [← Hca.out, ← Ha.out]
            go_roundg (p.length - (k + 1))
            case measure => have := hgk.out; omega
            case rel => exact ⟨k + 1, _, rfl, by go_num, by rw [Hst.out, Hwl2.out], by omega, rfl, by rw [Hst.out]; exact hMa9, by rw [Hst.out]; first | exact hown10 | (rw [List.length_map] at hown10; exact hown10), hb9, hsz9⟩
           ·
            have hd : ((1 + ((mst (upd us j true) (k + 1) : Nat) : Int)) == (lf : Int)) = false := by rw [beq_eq_false_iff_ne]; omega
            have Hn2 := Lib.hid (Hnn.out (by rw [hcn, husj, decide_eq_false hmq]; rfl))
            have u0 := hMa4.fb.cellF hjl
            have u1 := hMa4.fb.frozen j
            have hMa5 := (hMa4.set j true).same (f2 := fun c => !us c) (fun c _ => by
             by_cases e : c = j
             ·
              subst e; rw [upd_at, husj]; rfl
             ·
              rw [upd_ne _ _ e, upd_ne _ _ e])
            have hkF : Kp (fun x => x = FB) w7 (w7.setCell ⟨FB, j, none⟩ (.bool true)) := (Kp.refl (fun x => x = FB) w7).setCell (p := ⟨FB, j, none⟩) (.inl rfl) _
            have hS5 : SesBox _ bS ⟨s1, s2, s3, s4, s5⟩ := Box.kp hS4 hkF (fun e => by omega)
            have hown5 := hown4.kp hkF (fun x hx e => by have := (hown4.lt x hx).1; omega)
            have hb5 := belowKp hb4 hkF (fun x e => by omega) hb4.size
            have hsz5 := Nat.le_trans hsz4 hkF.size
            clear hMa4 hown4 hb4 hsz4 hS4 hK4 hkF Hnn Hyy
            go_wp2_with fail
            rw [← Hca.out]
            go_roundg (l.length - (j + 1))
            case measure => have := hgj.out; omega
            case rel => exact ⟨j + 1, rfl, rfl, by go_num, by omega, rfl, Hn2.out, hMa5, hown5, hb5, hsz5, hS5⟩
          ·
           rw [husj] at u0
           simp only [Bool.not_true] at u0
           have Hn2 := Lib.hid (Hnn.out (by rw [hcn, husj]; rfl))
           clear Hnn Hyy
           go_wp2_with fail
           rw [← Hca.out]
           go_roundg (l.length - (j + 1))
           case measure => have := hgj.out; omega
           case rel => exact ⟨j + 1, rfl, rfl, by go_num, by omega, rfl, Hn2.out, hMa1, hown1, hb1, hsz1, hS1⟩
        ·
         obtain rfl : j = l.length := by omega
         have Hst := Lib.hid (HNx.out (find_none (fun i hi hj => by rw [List.getElem_range]; exact hno.out i hj) (by rw [List.length_range]; exact Nat.le_refl _)))
         clear hno HNx HSx
         go_wp2_with fail
         rw [← Ha.out]
         go_roundg (p.length - (k + 1))
         case measure => have := hgk.out; omega
         case rel => exact ⟨k + 1, _, rfl, by go_num, by rw [Hst.out], by omega, rfl, by rw [Hst.out]; exact hMa, by rw [Hst.out]; exact hown, hb, hsz⟩
      ·
       obtain rfl : k = p.length := by omega
       rw [← HX.out] at hown
       have hownF := hown.mono (base' := w.heap.size) (by omega)
       clear hMa hown
       go_wp2_with fail
       go_ret
       exact ⟨_, rfl, hownF, hb⟩
end Go.Proofs.YtbfhcdnchmddeaaGreatDoor
