/- slices.SortFunc of any number of sessions. Written by gen/src/sesort.py. -/
import Derived.Test.YtldgphhiajhfhaaGreatDoorTotC
import Derived.Test.YtldgphhiajhfhaaGreatDoorSortW
import Derived.Test.YtldgphhiajhfhaaGreatDoorCmpF
import Derived.Test.YtldgphhiajhfhaaGreatDoorSortL
import Derived.Test.YtldgphhiajhfhaaGreatDoorGridP
import Derived.Shelf.SlSortCmp.WholeK
namespace Go.Proofs.YtldgphhiajhfhaaGreatDoor
open Go.RowKit Go.Sort
set_option linter.unusedVariables false
set_option linter.unusedSimpArgs false

def cmpSes (x y : Ses) : Int := sesOrd x y
theorem totC_Ses : TotC cmpSes := by
 have h := (totC_S.pull (fun x : Ses => x.slot)).lex ((totC_S.pull (fun x : Ses => x.room)).lex (d := fun _ _ => 0) ⟨fun _ _ => by omega, fun _ _ _ _ _ => Int.le_refl _⟩)
 exact h
theorem swoSes : SWO (ltOf cmpSes) := totC_Ses.swo
instance instInhSes : Inhabited Ses := ⟨⟨⟨#[]⟩, ⟨#[]⟩, [], none, 0⟩⟩
/-- As slices.SortFunc puts them. -/
noncomputable def sortSes (l : List Ses) : List Ses := (pdq (ltOf cmpSes) l.toArray 0 l.length (Lib.bitLen l.length) true true).toList
theorem sortSes_len (l : List Ses) : (sortSes l).length = l.length := by
 have h := (pdq_sorts (ltOf cmpSes) swoSes l.toArray 0 l.length (Lib.bitLen l.length) true true (Nat.zero_le _) (by rw [List.size_toArray]; exact Nat.le_refl _) (Or.inl rfl)).1.1
 unfold sortSes
 rw [Array.length_toList, h, List.size_toArray]
theorem sortSes_nil : sortSes [] = [] := List.length_eq_zero_iff.1 (sortSes_len [])

set_option maxRecDepth 100000 in
theorem insSess_nil (a : Option Addr) (cap : Nat) (fv : Value) (w : World) : Calls Tryz.prog 175 #[.slice a 0 cap, .int .i64 0, .int .i64 0, fv] w (fun e w' => e = .returned (.tuple #[]) ∧ w' = w) := by
 go_enter Tryz.func175, Tryz.ntmps175
 go_wp2_with fail
 refine wp_loop_rounds 1 ?_
 rw [rounds_succ]
 go_wp2_with fail
 go_end0
 exact ⟨rfl, rfl⟩
set_option maxRecDepth 100000 in
theorem pdqSess_nil (a : Option Addr) (cap : Nat) (m : Int) (fv : Value) (w : World) : Calls Tryz.prog 157 #[.slice a 0 cap, .int .i64 0, .int .i64 0, .int .i64 m, fv] w (fun e w' => e = .returned (.tuple #[]) ∧ w' = w) := by
 have HI := Lib.hid (fun W => insSess_nil a cap fv W)
 go_enter Tryz.func157, Tryz.ntmps157
 go_wp2_with fail
 refine wp_loop_rounds 1 ?_
 rw [rounds_succ]
 go_wp2_with fail
 refine (HI.out _).mono ?_
 rintro e w' ⟨rfl, rfl⟩
 go_wp2_with fail
 (try simp only [Exit.inBlock, Exit.then]); refine bodyPost_ret (results_none rfl _ _ _) rfl ?_
 exact ⟨rfl, rfl⟩
set_option maxRecDepth 100000 in
theorem sortSess_nil (a : Option Addr) (cap : Nat) (fv : Value) (w : World) : Calls Tryz.prog 120 #[.slice a 0 cap, fv] w (fun e w' => e = .returned (.tuple #[]) ∧ w' = w) := by
 have HI := Lib.hid (fun m W => pdqSess_nil a cap m fv W)
 have HB := Lib.hid (fun W => Tryz.bits_Len 0 W (by omega) (by omega))
 go_enter Tryz.func120, Tryz.ntmps120
 go_wp2_with fail
 refine (HB.out _).mono ?_
 rintro e w' ⟨rfl, rfl⟩
 go_wp2_with fail
 refine (HI.out _ _).mono ?_
 rintro e w' ⟨rfl, rfl⟩
 go_wp2_with fail
 go_end0
 exact ⟨rfl, rfl⟩
theorem sortSes_any (base : Nat) (l : List Ses) (v : Value) (w : World) (g : Nat) (eg : ∀ args w, (callFunc g args).run Tryz.prog w = .ok (.enter g args) w) (hc : ∀ x y W, Calls Tryz.prog g #[Ses.agg x, Ses.agg y] W (fun e w' => e = .returned (.int .i64 (cmpSes x y)) ∧ Grw W w'))
  (h : Own base 67 w v l) (hl : l.length ≤ 100000000) :
  Calls Tryz.prog 120 #[v, .func (.func g) #[] #[]] w (fun e w' => e = .returned (.tuple #[]) ∧ Own base 67 w' v (sortSes l) ∧ Kp (fun j => v.ownBlock = some j) w w') := by
 by_cases hn : l = []
 ·
  subst hn
  obtain ⟨a, cap, rfl, _⟩ := h.form
  refine (sortSess_nil a cap _ w).mono ?_
  rintro e w' ⟨rfl, rfl⟩
  rw [sortSes_nil]
  exact ⟨rfl, h, Kp.refl _ _⟩
 ·
  obtain ⟨a, cap, rfl, hsa, hab⟩ := h.form
  rcases hsa with hsa | ⟨b, off, rfl, hA⟩
  ·
   exact absurd hsa hn
  have hob : off = 0 := by
   rcases hab with ⟨h1 | ⟨b2, h1, -⟩, -⟩
   ·
    cases h1
   ·
    exact congrArg (·.off) (Option.some.inj h1)
  subst hob
  obtain ⟨cur, hbox⟩ := h.box
  have hH := holdsK_of (fun x : Ses => x) l hbox (by rw [List.map_id']; exact hA)
  have hcon := AnyQ.slices_SortFunc_eq Tryz.sort_Session 3 Tryz.isAgg67 Tryz.sizeOf67 (fun x : Ses => Cel.cells x) (fun x => Cel.len _) (fun x => Cel.one _) cmpSes swoSes g #[] b 0 cap l.toArray w eg
   (fun m os dk hs x y => (hc x y _).mono fun e w' ⟨h1, h2⟩ => ⟨h1, h2.grown⟩) hH hbox.lt (by rw [List.size_toArray]; omega)
  rw [List.size_toArray] at hcon
  refine hcon.mono ?_
  rintro e w' ⟨rfl, n, os, rfl⟩
  refine ⟨rfl, ?_, (kp_sortK _ _ _ _ _ _ _).mono (fun k hk => .inl (by rw [hk]; rfl))⟩
  have hlen := sortSes_len l
  have hd := holdsK_sortWorldK_c (fun x : Ses => Cel.cells x) 3 w b 0 _ (pdq (ltOf cmpSes) l.toArray 0 l.length (Lib.bitLen l.length) true true) n os hH hbox.lt (by unfold sortSes at hlen; rw [Array.length_toList] at hlen; rw [hlen, List.size_toArray])
  have hsa := arr_of_holdsK (fun x : Ses => x) hd
  rw [List.map_id'] at hsa
  exact h.turned (fun cur hb => box_sortK hb _ _ _ _ _) hlen hsa
end Go.Proofs.YtldgphhiajhfhaaGreatDoor
