/- Events, in order of their sums: slices.SortFunc of any number of them. -/
import Derived.Test.YtnocceilpnmbpaaGreatDoorEvP
import Derived.Test.YtnocceilpnmbpaaGreatDoorTotC
import Derived.Test.YtnocceilpnmbpaaGreatDoorSortW
import Derived.Test.YtnocceilpnmbpaaGreatDoorCmpF
import Derived.Test.YtnocceilpnmbpaaGreatDoorSortL
import Derived.Shelf.SlSortCmp.WholeK
namespace Go.Proofs.YtnocceilpnmbpaaGreatDoor
open Go.RowKit Go.Sort
set_option linter.unusedVariables false
set_option linter.unusedSimpArgs false

def cmpE (x y : Ev) : Int := cmpS x.sum y.sum
theorem totC_E : TotC cmpE := totC_S.pull (fun x : Ev => x.sum)
theorem swoE : SWO (ltOf cmpE) := totC_E.swo
/-- As slices.SortFunc puts them. -/
noncomputable def sortE (l : List Ev) : List Ev := (pdq (ltOf cmpE) l.toArray 0 l.length (Lib.bitLen l.length) true true).toList
theorem sortE_len (l : List Ev) : (sortE l).length = l.length := by
 have h := (pdq_sorts (ltOf cmpE) swoE l.toArray 0 l.length (Lib.bitLen l.length) true true (Nat.zero_le _) (by rw [List.size_toArray]; exact Nat.le_refl _) (Or.inl rfl)).1.1
 unfold sortE
 rw [Array.length_toList, h, List.size_toArray]
theorem sortE_nil : sortE [] = [] := List.length_eq_zero_iff.1 (sortE_len [])
set_option maxHeartbeats 1000000 in
theorem bySum_any (x y : Ev) (w : World) : Calls Tryz.prog 60 #[x.agg, y.agg] w (fun e w' => e = .returned (.int .i64 (cmpE x y)) ∧ Grw w w') := by
 obtain ⟨x1, x2, x3, x4, x5, x6, x7, x8, x9, xa, xc⟩ := x
 obtain ⟨y1, y2, y3, y4, y5, y6, y7, y8, y9, ya, yc⟩ := y
 unfold Ev.agg cmpE
 simp only
 have HS : Hid (∀ W', Calls Tryz.prog 47 #[.string x1, .string y1] W' (fun e w' => e = .returned (.int .i64 (cmpS x1 y1)) ∧ w' = W')) := fun W' => Tryz.strings_Compare x1 y1 W'
 go_enter Tryz.func60, Tryz.ntmps60
 go_wp2_with fail
 refine (HS.out _).mono ?_
 rintro e w' ⟨rfl, rfl⟩
 go_wp2_with fail
 go_ret
 exact ⟨rfl, ((Grw.refl _).alloc _).alloc _⟩
set_option maxHeartbeats 1000000 in
theorem refBySum_any (x y : Ev) (w : World) : Calls Tryz.prog 65 #[x.agg, y.agg] w (fun e w' => e = .returned (.int .i64 (cmpE x y)) ∧ Grw w w') := by
 obtain ⟨x1, x2, x3, x4, x5, x6, x7, x8, x9, xa, xc⟩ := x
 obtain ⟨y1, y2, y3, y4, y5, y6, y7, y8, y9, ya, yc⟩ := y
 unfold Ev.agg cmpE
 simp only
 have HS : Hid (∀ W', Calls Tryz.prog 47 #[.string x1, .string y1] W' (fun e w' => e = .returned (.int .i64 (cmpS x1 y1)) ∧ w' = W')) := fun W' => Tryz.strings_Compare x1 y1 W'
 go_enter Tryz.func65, Tryz.ntmps65
 go_wp2_with fail
 refine (HS.out _).mono ?_
 rintro e w' ⟨rfl, rfl⟩
 go_wp2_with fail
 go_ret
 exact ⟨rfl, ((Grw.refl _).alloc _).alloc _⟩
set_option maxHeartbeats 1000000 in
theorem spoilClo_any (x y : Ev) (w : World) : Calls Tryz.prog 46 #[x.agg, y.agg] w (fun e w' => e = .returned (.int .i64 (cmpE x y)) ∧ Grw w w') := by
 obtain ⟨x1, x2, x3, x4, x5, x6, x7, x8, x9, xa, xc⟩ := x
 obtain ⟨y1, y2, y3, y4, y5, y6, y7, y8, y9, ya, yc⟩ := y
 unfold Ev.agg cmpE
 simp only
 have HS : Hid (∀ W', Calls Tryz.prog 47 #[.string x1, .string y1] W' (fun e w' => e = .returned (.int .i64 (cmpS x1 y1)) ∧ w' = W')) := fun W' => Tryz.strings_Compare x1 y1 W'
 go_enter Tryz.func46, Tryz.ntmps46
 go_wp2_with fail
 refine (HS.out _).mono ?_
 rintro e w' ⟨rfl, rfl⟩
 go_wp2_with fail
 go_ret
 exact ⟨rfl, ((Grw.refl _).alloc _).alloc _⟩
theorem sortE_mem {l : List Ev} (x : Ev) : x ∈ sortE l ↔ x ∈ l := (sortC_both totC_E l).2.1.mem_iff
theorem sortE_all {l : List Ev} {P : Ev → Prop} (h : ∀ x ∈ l, P x) : ∀ x ∈ sortE l, P x := fun x hx => h x ((sortE_mem x).1 hx)
set_option maxRecDepth 100000 in
theorem insEvs_nil (a : Option Addr) (cap : Nat) (fv : Value) (w : World) : Calls Tryz.prog 122 #[.slice a 0 cap, .int .i64 0, .int .i64 0, fv] w (fun e w' => e = .returned (.tuple #[]) ∧ w' = w) := by
 go_enter Tryz.func122, Tryz.ntmps122
 go_wp2_with fail
 refine wp_loop_rounds 1 ?_
 rw [rounds_succ]
 go_wp2_with fail
 go_end0
 exact ⟨rfl, rfl⟩
set_option maxRecDepth 100000 in
theorem pdqEvs_nil (a : Option Addr) (cap : Nat) (m : Int) (fv : Value) (w : World) : Calls Tryz.prog 88 #[.slice a 0 cap, .int .i64 0, .int .i64 0, .int .i64 m, fv] w (fun e w' => e = .returned (.tuple #[]) ∧ w' = w) := by
 have HI := Lib.hid (fun W => insEvs_nil a cap fv W)
 go_enter Tryz.func88, Tryz.ntmps88
 go_wp2_with fail
 refine wp_loop_rounds 1 ?_
 rw [rounds_succ]
 go_wp2_with fail
 refine (HI.out _).mono ?_
 rintro e w' ⟨rfl, rfl⟩
 go_wp2_with fail
 (try simp only [Exit.inBlock, Exit.then]); refine bodyPost_ret (results_none rfl _ _ _) rfl ?_
 exact ⟨rfl, rfl⟩
set_option maxRecDepth 100000 in
theorem sortEvs_nil (a : Option Addr) (cap : Nat) (fv : Value) (w : World) : Calls Tryz.prog 45 #[.slice a 0 cap, fv] w (fun e w' => e = .returned (.tuple #[]) ∧ w' = w) := by
 have HI := Lib.hid (fun m W => pdqEvs_nil a cap m fv W)
 have HB := Lib.hid (fun W => Tryz.bits_Len 0 W (by omega) (by omega))
 go_enter Tryz.func45, Tryz.ntmps45
 go_wp2_with fail
 refine (HB.out _).mono ?_
 rintro e w' ⟨rfl, rfl⟩
 go_wp2_with fail
 refine (HI.out _ _).mono ?_
 rintro e w' ⟨rfl, rfl⟩
 go_wp2_with fail
 go_end0
 exact ⟨rfl, rfl⟩
theorem sortEvs_any (base : Nat) (l : List Ev) (v : Value) (w : World) (g : Nat) (eg : ∀ args w, (callFunc g args).run Tryz.prog w = .ok (.enter g args) w) (hc : ∀ x y W, Calls Tryz.prog g #[x.agg, y.agg] W (fun e w' => e = .returned (.int .i64 (cmpE x y)) ∧ Grw W w'))
  (h : Own base 53 w v l) (hl : l.length ≤ 100000000) :
  Calls Tryz.prog 45 #[v, .func (.func g) #[] #[]] w (fun e w' => e = .returned (.tuple #[]) ∧ Own base 53 w' v (sortE l) ∧ Kp (fun j => v.ownBlock = some j) w w') := by
 by_cases hn : l = []
 ·
  subst hn
  obtain ⟨a, cap, rfl, _⟩ := h.form
  refine (sortEvs_nil a cap _ w).mono ?_
  rintro e w' ⟨rfl, rfl⟩
  rw [sortE_nil]
  exact ⟨rfl, h, Kp.refl _ _⟩
 ·
  obtain ⟨a, cap, rfl, hsa, hab⟩ := h.form
  rcases hsa with hsa | ⟨b, off, rfl, hA⟩
  ·
   exact absurd hsa hn
  have hob : off = 0 := by
   rcases hab with ⟨h1 | ⟨b2, h1, -⟩, -⟩
   ·
    cases h1
   ·
    exact congrArg (·.off) (Option.some.inj h1)
  subst hob
  obtain ⟨cur, hbox⟩ := h.box
  have hH := holdsK_of (fun x : Ev => x) l hbox (by rw [List.map_id']; exact hA)
  have hcon := AnyQ.slices_SortFunc_eq Tryz.sort_Event 9 Tryz.isAgg53 Tryz.sizeOf53 (fun x : Ev => Cel.cells x) (fun x => Cel.len _) (fun x => Cel.one _) cmpE swoE g #[] b 0 cap l.toArray w eg
   (fun m os dk hs x y => (hc x y _).mono fun e w' ⟨h1, h2⟩ => ⟨h1, h2.grown⟩) hH hbox.lt (by rw [List.size_toArray]; omega)
  rw [List.size_toArray] at hcon
  refine hcon.mono ?_
  rintro e w' ⟨rfl, n, os, rfl⟩
  refine ⟨rfl, ?_, (kp_sortK _ _ _ _ _ _ _).mono (fun k hk => .inl (by rw [hk]; rfl))⟩
  have hlen := sortE_len l
  have hd := holdsK_sortWorldK_c (fun x : Ev => Cel.cells x) 9 w b 0 _ (pdq (ltOf cmpE) l.toArray 0 l.length (Lib.bitLen l.length) true true) n os hH hbox.lt (by unfold sortE at hlen; rw [Array.length_toList] at hlen; rw [hlen, List.size_toArray])
  have hsa := arr_of_holdsK (fun x : Ev => x) hd
  rw [List.map_id'] at hsa
  exact h.turned (fun cur hb => box_sortK hb _ _ _ _ _) hlen hsa
end Go.Proofs.YtnocceilpnmbpaaGreatDoor
