/- Two lists of events united: UnitedOf of the reference. -/
import Derived.Test.YtnocceilpnmbpaaGreatDoorEv8
namespace Go.Proofs.YtnocceilpnmbpaaGreatDoor
open Go.RowKit
set_option linter.unusedVariables false
set_option linter.unusedSimpArgs false

/-- One event more. -/
def uniteS (out : List Ev) (e : Ev) : Option (List Ev) := match findE out e.sum with | none => some (out ++ [e]) | some x => if sameE x e = true then some out else none
def uniteTo (l : List Ev) : Nat → Option (List Ev)
 | 0 => some []
 | k + 1 => match uniteTo l k with | none => none | some out => match l[k]? with | none => some out | some e => uniteS out e
theorem uniteTo_succ {l : List Ev} {k : Nat} {out : List Ev} (h : uniteTo l k = some out) (hk : k < l.length) : uniteTo l (k + 1) = uniteS out l[k] := by
 rw [uniteTo, h, List.getElem?_eq_getElem hk]
theorem uniteTo_none {l : List Ev} {k : Nat} (h : uniteTo l k = none) : ∀ n, k ≤ n → uniteTo l n = none := by
 intro n hn
 induction n with
 | zero =>
  obtain rfl : k = 0 := by omega
  exact h
 | succ n ih =>
  by_cases hkn : k = n + 1
  ·
   subst hkn; exact h
  ·
   rw [uniteTo, ih (by omega)]
theorem uniteS_mem {out out' : List Ev} {e : Ev} (h : uniteS out e = some out') : (∀ x ∈ out', x ∈ out ∨ x = e) ∧ out'.length ≤ out.length + 1 := by
 unfold uniteS at h
 split at h
 ·
  obtain rfl := Option.some.inj h
  exact ⟨fun x hx => (List.mem_append.1 hx).imp id (fun h => List.mem_singleton.1 h), by simp⟩
 ·
  split at h
  ·
   obtain rfl := Option.some.inj h
   exact ⟨fun x hx => .inl hx, by omega⟩
  ·
   cases h
theorem uniteS_new {out : List Ev} {e : Ev} (h : findE out e.sum = none) : uniteS out e = some (out ++ [e]) := by unfold uniteS; rw [h]
theorem uniteS_same {out : List Ev} {e x : Ev} (h : findE out e.sum = some x) (k : sameE x e = true) : uniteS out e = some out := by unfold uniteS; rw [h]; simp only; rw [if_pos k]
theorem uniteS_diff {out : List Ev} {e x : Ev} (h : findE out e.sum = some x) (k : sameE x e = false) : uniteS out e = none := by unfold uniteS; rw [h]; simp only; rw [if_neg (by rw [k]; decide)]
/-- What UnitedOf answers: the error, the events. -/
noncomputable def uniteR (a b : List Ev) : Int × List Ev :=
 if 1500 < b.length then (2, [])
 else match uniteTo (a ++ b) (a ++ b).length with
  | none => (13, [])
  | some out => if (evsRes (sortE out)).2 ≠ 0 then ((evsRes (sortE out)).2, []) else (0, sortE out)
theorem uniteR_large {a b : List Ev} (h : 1500 < b.length) : uniteR a b = (2, []) := by unfold uniteR; rw [if_pos h]
theorem uniteR_none {a b : List Ev} {k : Nat} (h : ¬ 1500 < b.length) (hn : uniteTo (a ++ b) k = none) (hk : k ≤ (a ++ b).length) : uniteR a b = (13, []) := by
 unfold uniteR; rw [if_neg h, uniteTo_none hn _ hk]
theorem uniteR_bad {a b out : List Ev} (h : ¬ 1500 < b.length) (hn : uniteTo (a ++ b) (a ++ b).length = some out) (he : (evsRes (sortE out)).2 ≠ 0) : uniteR a b = ((evsRes (sortE out)).2, []) := by
 unfold uniteR; rw [if_neg h, hn]; simp only; rw [if_pos he]
theorem uniteR_ok {a b out : List Ev} (h : ¬ 1500 < b.length) (hn : uniteTo (a ++ b) (a ++ b).length = some out) (he : (evsRes (sortE out)).2 = 0) : uniteR a b = (0, sortE out) := by
 unfold uniteR; rw [if_neg h, hn]; simp only; rw [if_neg (fun g => g he)]
/-- The lists of events lie in blocks from base on, that are there. -/
def AdsIn (base top : Nat) (l : List Ev) : Prop := ∀ e ∈ l, ∀ y, e.a = some y → base ≤ y.block ∧ y.block < top
theorem AdsIn.app {base top : Nat} {l m : List Ev} (h : AdsIn base top l) (k : AdsIn base top m) : AdsIn base top (l ++ m) := fun e he => (List.mem_append.1 he).elim (h e) (k e)
theorem AdsIn.mono {base top base' top' : Nat} {l : List Ev} (h : AdsIn base top l) (h1 : base' ≤ base) (h2 : top ≤ top') : AdsIn base' top' l := fun e he y hy => by have := h e he y hy; omega
/-- Events of the call's own, whose lists were there before. -/
theorem NL.ofOwn {base lo : Nat} {w w' : World} {v : Value} {l : List Ev} (h : Own lo 53 w' v l) (hlo : base ≤ lo) (hlo2 : w.heap.size ≤ lo) (hrd : ∀ e ∈ l, ERd w' e) (had : AdsIn base w.heap.size l) (hsz : w.heap.size ≤ w'.heap.size) : NL base 53 w' v l :=
 ⟨h.mono hlo, fun x hx => ⟨hrd x hx, fun y hy => by
  have hy' : x.a = some y := by
   have : y ∈ x.a.toList := hy
   simpa using this
  obtain ⟨h1, h2⟩ := had x hx y hy'
  exact ⟨h1, by omega, fun e => by have := (h.lt _ e).1; omega⟩⟩⟩
def UniteRes (base : Nat) (a b : List Ev) (w : World) (e : Ending) (w' : World) : Prop :=
 ∃ v, e = .returned (.tuple #[v, .int .i64 (uniteR a b).1]) ∧ NL base 53 w' v (uniteR a b).2 ∧ Below w.heap.size w w'
theorem UniteRes.bad {base : Nat} {a b : List Ev} {w w' : World} {er : Int} (h : uniteR a b = (er, [])) (hb : Below w.heap.size w w') : UniteRes base a b w (.returned (.tuple #[.slice none 0 0, .int .i64 er])) w' :=
 ⟨_, by rw [h], by rw [h]; exact NL.nil _ _ _, hb⟩
set_option maxRecDepth 100000 in
set_option maxHeartbeats 8000000 in
theorem unitedOf_any (base : Nat) (a b : List Ev) (aa ba : Option Addr) (ac bc : Nat) (w : World) (hE : EnvE w) (hbase : base ≤ w.heap.size) (ha : EvsAt w aa a) (hb : EvsAt w ba b) (hal : a.length ≤ 10000) (hbl : b.length ≤ 10000)
  (haok : ∀ e ∈ a, EvOk e) (hbok : ∀ e ∈ b, EvOk e) (haad : AdsIn base w.heap.size a) (hbad : AdsIn base w.heap.size b) :
  Calls Tryz.prog 37 #[.slice aa a.length ac, .slice ba b.length bc] w (UniteRes base a b w) := by
 by_cases h15 : 1500 < b.length
 ·
  have hi : (1500 : Int) < (b.length : Int) := by omega
  go_enter Tryz.func37, Tryz.ntmps37
  go_wp2_with fail
  go_ret2
  exact UniteRes.bad (uniteR_large h15) (Below.refl _ _)
 have H15 := Lib.hid h15
 have hi : ¬ (1500 : Int) < (b.length : Int) := by omega
 clear h15
 have hb0 : Below w.heap.size w (w.alloc (.cells #[.slice aa a.length ac, .slice ba b.length bc] 26)) := (Below.refl _ _).alloc (Nat.le_refl _) _
 have HC := Lib.hid (concatEv_any a b aa ba ac bc w.heap.size _ (Box.new w 26 #[.slice aa a.length ac, .slice ba b.length bc]) (ha.1.below hb0) (hb.1.below hb0) hal hbl)
 have HRD : Hid (∀ e ∈ a ++ b, ∀ W, Below w.heap.size w W → ERd W e) := fun e he W h => ((List.mem_append.1 he).elim (ha.2 e) (hb.2 e)).below h
 have HOK : Hid (∀ e ∈ a ++ b, EvOk e) := fun e he => (List.mem_append.1 he).elim (haok e) (hbok e)
 have HAD : Hid (AdsIn base w.heap.size (a ++ b)) := haad.app hbad
 have HE := Lib.hid (fun W (h : Below w.heap.size w W) => hE.below h)
 have hll : (a ++ b).length ≤ 20000 := by rw [List.length_append]; omega
 have HU1 : Hid (∀ k, uniteTo (a ++ b) k = none → k ≤ (a ++ b).length → uniteR a b = (13, [])) := fun k => uniteR_none H15.out
 have HU2 : Hid (∀ out, uniteTo (a ++ b) (a ++ b).length = some out → (evsRes (sortE out)).2 ≠ 0 → uniteR a b = ((evsRes (sortE out)).2, [])) := fun out => uniteR_bad H15.out
 have HU3 : Hid (∀ out, uniteTo (a ++ b) (a ++ b).length = some out → (evsRes (sortE out)).2 = 0 → uniteR a b = (0, sortE out)) := fun out => uniteR_ok H15.out
 clear ha hb haok hbok haad hbad hE
 go_enter Tryz.func37, Tryz.ntmps37
 go_wp2_with fail
 refine HC.out.mono ?_
 rintro e w1 ⟨v1, rfl, hown1, hb1⟩
 have hb01 := below_next hb0 hb1
 have hz01 := hb01.size
 obtain ⟨a1, c1, rfl, hsa1, -, -⟩ := hown1.form
 have HSA := Lib.hid (fun W (h : Below w1.heap.size w1 W) => hsa1.below h)
 clear hown1 hb0 hb1 HC hsa1
 have hnil : uniteTo (a ++ b) 0 = some [] := rfl
 generalize a ++ b = l at *
 go_wp2_with fail
 go_loopg [6, 21] l.length (fun gk v i wr => ∃ (k : Nat) (out : List Ev), i = .int .i64 k ∧ k ≤ l.length ∧ Hid (gk = l.length - k) ∧ Hid (uniteTo l k = some out) ∧ Hid (out.length ≤ k) ∧ Hid (∀ e ∈ out, e ∈ l) ∧ Own w1.heap.size 53 wr v out ∧ Below w1.heap.size w1 wr)
 case atStart => exact ⟨0, [], rfl, by omega, rfl, hnil, Nat.le_refl _, (fun e he => by cases he), Own.nil _ _ _, Below.refl _ _⟩
 case round =>
  clear hnil
  obtain ⟨k, out, rfl, hk, hgk, hun, hol, hmem, hown, hbr⟩ := hrel
  obtain ⟨av, cv, rfl, hsav, hfv, hcv⟩ := hown.form
  have hbw := below_next hb01 hbr
  by_cases hlt : k < l.length
  ·
   obtain ⟨b2, off2, ha2, c0, c1', c2, c3, c4, c5, c6, c7, c8⟩ := (HSA.out _ hbr).ev hlt
   have HSt := Lib.hid (uniteTo_succ hun.out hlt)
   have hxm := List.getElem_mem hlt
   have Ha2 := Lib.hid ha2
   rw [ha2]
   clear ha2
   have HN := Lib.hid (fun h => uniteS_new (out := out) (e := l[k]'hlt) h)
   have HSm := Lib.hid (fun x h g => uniteS_same (out := out) (e := l[k]'hlt) (x := x) h g)
   have HDf := Lib.hid (fun x h g => uniteS_diff (out := out) (e := l[k]'hlt) (x := x) h g)
   have Hxm := Lib.hid hxm
   clear hxm
   generalize l[k] = x at *
   obtain ⟨x1, x2, x3, x4, x5, x6, x7, x8, x9, xa, xc⟩ := x
   simp only at c0 c1' c2 c3 c4 c5 c6 c7 c8 HN HSm HDf
   have hbx := Box.new wr 53 #[.string x1, .string x2, .int .i64 x3, .slice xa x4.length xc, .int .i64 x5, .string x6, .string x7, .string x8, .string x9]
   have hbW : Below wr.heap.size wr (wr.alloc (.cells #[.string x1, .string x2, .int .i64 x3, .slice xa x4.length xc, .int .i64 x5, .string x6, .string x7, .string x8, .string x9] 53)) := (Below.refl _ _).alloc (Nat.le_refl _) _
   have Hb : Hid (Below w1.heap.size w1 (wr.alloc (.cells #[.string x1, .string x2, .int .i64 x3, .slice xa x4.length xc, .int .i64 x5, .string x6, .string x7, .string x8, .string x9] 53))) := below_next hbr hbW
   have hownW := hown.below hbW
   have hsavW := hsav.below hbW
   go_upto_region 7 with (fail)
   generalize wr.alloc (.cells #[.string x1, .string x2, .int .i64 x3, .slice xa x4.length xc, .int .i64 x5, .string x6, .string x7, .string x8, .string x9] 53) = W at *
   generalize wr.heap.size = q at *
   clear c0 c1' c2 c3 c4 c5 c6 c7 c8 hbr hown hsav hbW hbw
   have HFy := Lib.hid (eventOf_any out av cv x1 W hsavW (by have := hol.out; omega))
   obtain ⟨fz, hfz⟩ : ∃ fz, findE out x1 = fz := ⟨_, rfl⟩
   rw [hfz] at HFy
   have Hfz := Lib.hid hfz
   clear hfz
   have Hbx := Lib.hid hbx
   have hbx_l := hbx.lt; have hbx_0 := hbx.cell 0; have hbx_1 := hbx.cell 1; have hbx_2 := hbx.cell 2; have hbx_3 := hbx.cell 3; have hbx_4 := hbx.cell 4; have hbx_5 := hbx.cell 5; have hbx_6 := hbx.cell 6; have hbx_7 := hbx.cell 7; have hbx_8 := hbx.cell 8; simp at hbx_0 hbx_1 hbx_2 hbx_3 hbx_4 hbx_5 hbx_6 hbx_7 hbx_8
   rcases fz with _ | z
   ·
    replace HFy : Hid (Calls Tryz.prog 55 #[.slice av out.length cv, .string x1] W (Gives (.tuple #[.agg #[.string ⟨#[]⟩, .string ⟨#[]⟩, .int .i64 0, .slice none 0 0, .int .i64 0, .string ⟨#[]⟩, .string ⟨#[]⟩, .string ⟨#[]⟩, .string ⟨#[]⟩], .bool false]) W)) := HFy
    have Hnew := Lib.hid (HSt.out.trans (HN.out Hfz.out))
    go_wp2_with fail
    refine HFy.out.mono ?_
    rintro e w4 ⟨rfl, hb4⟩
    have HbN : Hid (Below w1.heap.size w1 w4) := below_next Hb.out hb4
    have HbxN := Lib.hid (Hbx.out.below hb4)
    clear hbx_l hbx_0 hbx_1 hbx_2 hbx_3 hbx_4 hbx_5 hbx_6 hbx_7 hbx_8
    clear hbx Hb Hbx
    have Hb := HbN
    have Hbx := HbxN
    have hbx := Hbx.out
    clear HbN HbxN
    have hbx_l := hbx.lt; have hbx_0 := hbx.cell 0; have hbx_1 := hbx.cell 1; have hbx_2 := hbx.cell 2; have hbx_3 := hbx.cell 3; have hbx_4 := hbx.cell 4; have hbx_5 := hbx.cell 5; have hbx_6 := hbx.cell 6; have hbx_7 := hbx.cell 7; have hbx_8 := hbx.cell 8; simp at hbx_0 hbx_1 hbx_2 hbx_3 hbx_4 hbx_5 hbx_6 hbx_7 hbx_8
    have hbm : Below w4.heap.size w4 (w4.alloc (.cells #[.string ⟨#[]⟩, .string ⟨#[]⟩, .int .i64 0, .slice none 0 0, .int .i64 0, .string ⟨#[]⟩, .string ⟨#[]⟩, .string ⟨#[]⟩, .string ⟨#[]⟩] 53)) := (Below.refl _ _).alloc (Nat.le_refl _) _
    go_upto_region 11 with (fail)
    generalize w4.alloc (.cells #[.string ⟨#[]⟩, .string ⟨#[]⟩, .int .i64 0, .slice none 0 0, .int .i64 0, .string ⟨#[]⟩, .string ⟨#[]⟩, .string ⟨#[]⟩, .string ⟨#[]⟩] 53) = w5 at *
    have HbN : Hid (Below w1.heap.size w1 w5) := below_next Hb.out hbm
    have HbxN := Lib.hid (Hbx.out.below hbm)
    clear hbx_l hbx_0 hbx_1 hbx_2 hbx_3 hbx_4 hbx_5 hbx_6 hbx_7 hbx_8
    clear hbx Hb Hbx
    have Hb := HbN
    have Hbx := HbxN
    have hbx := Hbx.out
    clear HbN HbxN
    have hbx_l := hbx.lt; have hbx_0 := hbx.cell 0; have hbx_1 := hbx.cell 1; have hbx_2 := hbx.cell 2; have hbx_3 := hbx.cell 3; have hbx_4 := hbx.cell 4; have hbx_5 := hbx.cell 5; have hbx_6 := hbx.cell 6; have hbx_7 := hbx.cell 7; have hbx_8 := hbx.cell 8; simp at hbx_0 hbx_1 hbx_2 hbx_3 hbx_4 hbx_5 hbx_6 hbx_7 hbx_8
    have hown5 := (hownW.below hb4).below hbm
    clear hb4 hbm hownW hsavW HFy HSt HN HSm HDf
    have hz5 := Hb.out.size
    go_upto_region 12 with (at_builtin; refine wpList_append_one rfl _ _ 26 rfl w1.heap.size 53 136 (.agg #[.string ⟨#[]⟩, .string ⟨#[]⟩, .int .i64 0, .slice none 0 0, .int .i64 0, .string ⟨#[]⟩, .string ⟨#[]⟩, .string ⟨#[]⟩, .string ⟨#[]⟩]) Tryz.underlying26 infoEv rfl _ out rfl (hown5.alloc _) (⟨x1, x2, x3, x4, x5, x6, x7, x8, x9, xa, xc⟩ : Ev) _ rfl (Box.newAt _ _ _ _ ?c0) ?c1 ?c2 ?c3 ?_; rotate_left 4; intro v' w6 hown6 hg6)
    case c0 => rfl
    case c1 => have := hol.out; omega
    case c2 => have := hol.out; omega
    case c3 => simp; omega
    have hb6 : Below w1.heap.size w1 w6 := Below.grown (Hb.out.alloc hz5 _) hg6 (by simp; omega) (fun j hj => (hown5.lt j hj).1)
    clear hg6 hown5 Hb Hbx hbx
    go_wp2_with fail
    rw [← Ha2.out]
    go_roundg (l.length - (k + 1))
    case measure => have := hgk.out; omega
    case rel => exact ⟨k + 1, out ++ [(⟨x1, x2, x3, x4, x5, x6, x7, x8, x9, xa, xc⟩ : Ev)], by go_num, by omega, rfl, Hnew.out, by show _ ≤ _; rw [List.length_append]; have := hol.out; simp; omega, fun e he => (List.mem_append.1 he).elim (hmem.out e) (fun h => by rw [List.mem_singleton.1 h]; exact Hxm.out), hown6, hb6⟩
   ·
    have Hzm := Lib.hid (findE_mem Hfz.out)
    have HSE := Lib.hid (fun W (h : Below w1.heap.size w1 W) => sameEvent_any z ⟨x1, x2, x3, x4, x5, x6, x7, x8, x9, xa, xc⟩ W (HRD.out z (hmem.out z Hzm.out.1) W (below_next hb01 h)) (HRD.out _ Hxm.out W (below_next hb01 h)) (by have := (HOK.out z (hmem.out z Hzm.out.1)).len; omega) (by have := (HOK.out _ Hxm.out).len; omega))
    have HSm2 := Lib.hid (fun g => HSt.out.trans (HSm.out z Hfz.out g))
    have HDf2 := Lib.hid (fun g => HU1.out (k + 1) (HSt.out.trans (HDf.out z Hfz.out g)) hlt)
    generalize sameE z ⟨x1, x2, x3, x4, x5, x6, x7, x8, x9, xa, xc⟩ = sm at *
    unfold Ev.agg at HSE
    simp only at HSE
    obtain ⟨z1, z2, z3, z4, z5, z6, z7, z8, z9, za, zc⟩ := z
    simp only at HSE
    replace HFy : Hid (Calls Tryz.prog 55 #[.slice av out.length cv, .string x1] W (Gives (.tuple #[.agg #[.string z1, .string z2, .int .i64 z3, .slice za z4.length zc, .int .i64 z5, .string z6, .string z7, .string z8, .string z9], .bool true]) W)) := HFy
    clear HSt HN HSm HDf Hfz Hzm
    go_wp2_with fail
    refine HFy.out.mono ?_
    rintro e w4 ⟨rfl, hb4⟩
    have HbN : Hid (Below w1.heap.size w1 w4) := below_next Hb.out hb4
    have HbxN := Lib.hid (Hbx.out.below hb4)
    clear hbx_l hbx_0 hbx_1 hbx_2 hbx_3 hbx_4 hbx_5 hbx_6 hbx_7 hbx_8
    clear hbx Hb Hbx
    have Hb := HbN
    have Hbx := HbxN
    have hbx := Hbx.out
    clear HbN HbxN
    have hbx_l := hbx.lt; have hbx_0 := hbx.cell 0; have hbx_1 := hbx.cell 1; have hbx_2 := hbx.cell 2; have hbx_3 := hbx.cell 3; have hbx_4 := hbx.cell 4; have hbx_5 := hbx.cell 5; have hbx_6 := hbx.cell 6; have hbx_7 := hbx.cell 7; have hbx_8 := hbx.cell 8; simp at hbx_0 hbx_1 hbx_2 hbx_3 hbx_4 hbx_5 hbx_6 hbx_7 hbx_8
    have hbm : Below w4.heap.size w4 (w4.alloc (.cells #[.string z1, .string z2, .int .i64 z3, .slice za z4.length zc, .int .i64 z5, .string z6, .string z7, .string z8, .string z9] 53)) := (Below.refl _ _).alloc (Nat.le_refl _) _
    have hbz := Box.new w4 53 #[.string z1, .string z2, .int .i64 z3, .slice za z4.length zc, .int .i64 z5, .string z6, .string z7, .string z8, .string z9]
    go_upto_region 8 with (fail)
    generalize w4.alloc (.cells #[.string z1, .string z2, .int .i64 z3, .slice za z4.length zc, .int .i64 z5, .string z6, .string z7, .string z8, .string z9] 53) = w5 at *
    have HbN : Hid (Below w1.heap.size w1 w5) := below_next Hb.out hbm
    have HbxN := Lib.hid (Hbx.out.below hbm)
    clear hbx_l hbx_0 hbx_1 hbx_2 hbx_3 hbx_4 hbx_5 hbx_6 hbx_7 hbx_8
    clear hbx Hb Hbx
    have Hb := HbN
    have Hbx := HbxN
    have hbx := Hbx.out
    clear HbN HbxN
    have hbx_l := hbx.lt; have hbx_0 := hbx.cell 0; have hbx_1 := hbx.cell 1; have hbx_2 := hbx.cell 2; have hbx_3 := hbx.cell 3; have hbx_4 := hbx.cell 4; have hbx_5 := hbx.cell 5; have hbx_6 := hbx.cell 6; have hbx_7 := hbx.cell 7; have hbx_8 := hbx.cell 8; simp at hbx_0 hbx_1 hbx_2 hbx_3 hbx_4 hbx_5 hbx_6 hbx_7 hbx_8
    have hown5 := (hownW.below hb4).below hbm
    clear hb4 hbm hownW hsavW HFy
    generalize w4.heap.size = q2 at *
    have hbz_l := hbz.lt; have hbz_0 := hbz.cell 0; have hbz_1 := hbz.cell 1; have hbz_2 := hbz.cell 2; have hbz_3 := hbz.cell 3; have hbz_4 := hbz.cell 4; have hbz_5 := hbz.cell 5; have hbz_6 := hbz.cell 6; have hbz_7 := hbz.cell 7; have hbz_8 := hbz.cell 8; simp at hbz_0 hbz_1 hbz_2 hbz_3 hbz_4 hbz_5 hbz_6 hbz_7 hbz_8
    go_wp2_with fail
    refine (HSE.out _ Hb.out).mono ?_
    rintro e w6 ⟨rfl, hb6⟩
    have hown6 := hown5.below hb6
    have Hb6 : Hid (Below w1.heap.size w1 w6) := below_next Hb.out hb6
    clear hbx_l hbx_0 hbx_1 hbx_2 hbx_3 hbx_4 hbx_5 hbx_6 hbx_7 hbx_8
    clear hbz_l hbz_0 hbz_1 hbz_2 hbz_3 hbz_4 hbz_5 hbz_6 hbz_7 hbz_8
    clear hbx Hbx Hb hbz hb6 hown5
    cases sm
    ·
     have Hv := Lib.hid (HDf2.out rfl)
     go_wp2_with fail
     go_ret2
     exact UniteRes.bad Hv.out (below_next hb01 Hb6.out)
    ·
     have Hsame := Lib.hid (HSm2.out rfl)
     go_wp2_with fail
     rw [← Ha2.out]
     go_roundg (l.length - (k + 1))
     case measure => have := hgk.out; omega
     case rel => exact ⟨k + 1, out, by go_num, by omega, rfl, Hsame.out, by show _ ≤ _; have := hol.out; omega, hmem.out, hown6, Hb6.out⟩
  ·
   obtain rfl : k = l.length := by omega
   have H2 := Lib.hid (HU2.out out hun.out)
   have H3 := Lib.hid (HU3.out out hun.out)
   have Hmem2 : Hid (∀ e ∈ sortE out, e ∈ l) := fun e he => hmem.out e ((sortE_mem e).1 he)
   have Hsl := Lib.hid (sortE_len out)
   have HSort := Lib.hid (sortEvs_any w1.heap.size out _ wr 65 (enters_of Tryz.func65 (by kernel_rfl) rfl) (fun x y W => refBySum_any x y W) hown (by have := hol.out; omega))
   clear hsav hfv
   go_wp2_with fail
   refine HSort.out.mono ?_
   rintro e w4 ⟨rfl, hown4, hk4⟩
   have hb4 : Below w1.heap.size w1 w4 := belowKp hbr hk4 (fun j hj => (hown.lt j hj).1) hbr.size
   generalize sortE out = so at *
   obtain ⟨av2, cv2, he2, hsa2, -, -⟩ := hown4.form
   have hlo : so.length = out.length := Hsl.out
   simp only [Value.slice.injEq] at he2
   obtain ⟨rfl, -, rfl⟩ := he2
   have HCk := Lib.hid (eventsFault_any so av cv w4 (HE.out _ (below_next hb01 hb4)) ⟨hsa2, fun e he => HRD.out e (Hmem2.out e he) _ (below_next hb01 hb4)⟩ (by have := hol.out; omega) (fun e he => HOK.out e (Hmem2.out e he)))
   rw [hlo] at HCk
   generalize evsRes so = res at *
   obtain ⟨ri, re⟩ := res
   (try simp only at HCk H2 H3)
   have hbF := below_next hb01 hb4
   clear hown hbr hk4 hcv
   go_wp2_with fail
   refine HCk.out.mono ?_
   rintro e w5 ⟨rfl, hb5⟩
   have hbG := below_next hbF hb5
   by_cases hre : re = 0
   ·
    have Hv := Lib.hid (H3.out hre)
    have hq : (re != 0) = false := by simpa using hre
    have hown5 := hown4.below hb5
    have hNL : NL base 53 w5 (.slice av out.length cv) so := NL.ofOwn (w := w) hown5 (by omega) (by omega) (fun e he => HRD.out e (Hmem2.out e he) _ hbG) (fun e he => HAD.out e (Hmem2.out e he)) hbG.size
    clear hre
    go_wp2_with fail
    go_ret2
    exact ⟨_, by rw [Hv.out] <;> rfl, by rw [Hv.out]; exact hNL, hbG⟩
   ·
    have Hv := Lib.hid (H2.out hre)
    have hq : (re != 0) = true := by simpa using hre
    clear hre
    go_wp2_with fail
    go_ret2
    exact UniteRes.bad Hv.out hbG
end Go.Proofs.YtnocceilpnmbpaaGreatDoor
