/- For every list of raw numbers, EventsChecked returns true. The walk. -/
import Derived.Test.YtnocceilpnmbpaaGreatDoorEvMk4
import Derived.Test.YtnocceilpnmbpaaGreatDoorEv6
import Derived.Test.YtnocceilpnmbpaaGreatDoorEv7
import Derived.Test.YtnocceilpnmbpaaGreatDoorEvOff
namespace Go.Proofs.YtnocceilpnmbpaaGreatDoor.eventsChecked
open Go.RowKit
set_option linter.unusedVariables false
set_option linter.unusedSimpArgs false

/-- What the makers need of a desk's list. -/
def Mild (l : List Ev) : Prop := ∀ e ∈ l, e.at_ ≤ 999999999 ∧ e.after.length ≤ 1999
theorem mild_keeps : Keeps Mild where
 nil := fun e he => by cases he
 unite := fun a b ha hb _ e he => (List.mem_append.1 (uniteR_mem e he)).elim (ha e) (hb e)
 add := fun l e0 a c hl h0 he e hm => by
  rcases List.mem_append.1 ((sortE_mem e).1 hm) with h | h
  ·
   exact hl e h
  ·
   rw [List.mem_singleton.1 h]
   unfold addErr at he
   split at he
   ·
    exact absurd he (by decide)
   ·
    split at he
    ·
     exact absurd he (by decide)
    ·
     rename_i h20
     split at he
     ·
      rename_i hne
      exact absurd he hne
     ·
      rename_i hz
      have hz' : headF e0 = 0 := Classical.byContradiction hz
      unfold headF at hz'
      split at hz'
      ·
       exact absurd hz' (by decide)
      ·
       split at hz'
       ·
        exact absurd hz' (by decide)
       ·
        rename_i hm
        have hmb : momB e0.at_ = true := by simpa using hm
        unfold momB at hmb
        simp only [Bool.and_eq_true, decide_eq_true_eq] at hmb
        refine ⟨?_, ?_⟩
        ·
         show e0.at_ ≤ _; omega
        ·
         show e0.after.length ≤ _; omega
set_option maxRecDepth 100000 in
set_option maxHeartbeats 4000000 in
theorem walk (a0 : Option Addr) (len0 cap0 : Nat) (z0 : List Int) (w : World) (w0 : IsRow .i64 w a0 len0 cap0 z0) (hE : EnvE w) :
  Calls Tryz.prog 3 #[.slice a0 len0 cap0] w fun e w' => e = .returned (.bool true) ∧ Below w.heap.size w w' := by
 have hs := strm_new w0
 have hES := hE.envS
 go_enter Tryz.func3, Tryz.ntmps3
 go_wp2_with fail
 refine (events06_any Mild mild_keeps w.heap.size 0 _ hs (by omega) (hE.alloc _) hES).mono ?_
 rintro e w1 ⟨v1, rfl, ⟨l, hnl, hl, hok, hmild⟩, h1, s1⟩
 have hst1 : Stp w.heap.size w w1 := ((Stp.refl _ w).alloc _).trans h1
 have hE1 : EnvE w1 := hE.stp hst1 hES
 have hz1 := h1.size
 simp at hz1
 obtain ⟨a1, c1, rfl, hsa1, -, -⟩ := hnl.1.form
 have hev1 : EvsAt w1 a1 l := ⟨hsa1, hnl.rd⟩
 go_wp2_with fail
 refine (flip_any w.heap.size (0 + 300) 3 _ s1 (by omega) (by omega) (by omega)).mono ?_
 rintro e w2 ⟨r, rfl, h2, s2⟩
 have hst2 := hst1.trans h2
 have hnl2 := hnl.stp h2 (by simp)
 have hE2 := hE1.stp h2 hES
 have hz2 := h2.size
 clear h1 s1 hst1 hE1 hnl hsa1 hev1 h2 hs hE w0
 simp only [World.alloc, Array.size_push] at hnl2
 cases r
 ·
  go_wp2_with fail
  refine (spoiled_any w.heap.size (w.heap.size + 1) (0 + 300 + 1) l a1 c1 w2 s2 (by omega) hE2 hES (by omega) (by omega) hnl2 hl hok hmild).mono ?_
  rintro e w3 ⟨v, m, rfl, hnl3, hml, hokm, -, h3, s3⟩
  obtain ⟨a, c, rfl, hsa, -, -⟩ := hnl3.1.form
  have hev : EvsAt w3 a m := ⟨hsa, hnl3.rd⟩
  have hEe := hE2.stp h3 hES
  have hbF : Below w.heap.size w w3 := by have := (hst2.trans h3).below; rwa [Nat.min_self] at this
  clear hnl2 hok hmild hst2 hE2 s2 s3 h3 hnl3 hsa
  have HC := checkEvents_any m a c w3 hEe hev (by omega) hokm
  have HR := Lib.hid (fun W' (h : Below (w3).heap.size w3 W') => eventsFault_any m a c W' (hEe.below h) (hev.below h) (by omega) hokm)
  generalize evsRes m = res at *
  obtain ⟨n, er⟩ := res
  simp only at HC HR
  go_wp2_with fail
  refine HC.mono ?_
  rintro e wA ⟨rfl, hbA⟩
  go_wp2_with fail
  refine (HR.out _ hbA).mono ?_
  rintro e wB ⟨rfl, hbB⟩
  have hbAB := below_next hbA hbB
  go_wp2_with fail
  refine (offices_any wB (hEe.below hbAB)).mono ?_
  rintro e wC ⟨rfl, hbC⟩
  have hbAC := below_next hbAB hbC
  go_wp2_with fail
  go_ret
  exact ⟨rfl, below_next hbF hbAC⟩
 ·
  obtain ⟨m, hm⟩ : ∃ m, m = l := ⟨_, rfl⟩
  subst hm
  obtain ⟨a, c, he, hsa, -, -⟩ := hnl2.1.form
  simp only [Value.slice.injEq, true_and] at he
  obtain ⟨rfl, rfl⟩ := he
  have hev : EvsAt w2 a1 m := ⟨hsa, hnl2.rd⟩
  have hEe := hE2
  have hbF : Below w.heap.size w w2 := by have := hst2.below; rwa [Nat.min_self] at this
  have hokm := hok
  clear hnl2 hmild hok hst2 hE2 s2 hsa
  have HC := checkEvents_any m a1 c1 w2 hEe hev (by omega) hokm
  have HR := Lib.hid (fun W' (h : Below (w2).heap.size w2 W') => eventsFault_any m a1 c1 W' (hEe.below h) (hev.below h) (by omega) hokm)
  generalize evsRes m = res at *
  obtain ⟨n, er⟩ := res
  simp only at HC HR
  go_wp2_with fail
  refine HC.mono ?_
  rintro e wA ⟨rfl, hbA⟩
  go_wp2_with fail
  refine (HR.out _ hbA).mono ?_
  rintro e wB ⟨rfl, hbB⟩
  have hbAB := below_next hbA hbB
  go_wp2_with fail
  refine (offices_any wB (hEe.below hbAB)).mono ?_
  rintro e wC ⟨rfl, hbC⟩
  have hbAC := below_next hbAB hbC
  go_wp2_with fail
  go_ret
  exact ⟨rfl, below_next hbF hbAC⟩
end Go.Proofs.YtnocceilpnmbpaaGreatDoor.eventsChecked
