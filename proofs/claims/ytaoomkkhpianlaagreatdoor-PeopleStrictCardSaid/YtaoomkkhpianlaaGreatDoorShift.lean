/- Shifted marks: Shift, ShiftOf. -/
import Derived.Test.YtaoomkkhpianlaaGreatDoorRank1
import Derived.Test.YtaoomkkhpianlaaGreatDoorEq2
import Derived.Test.YtaoomkkhpianlaaGreatDoorAgree3
namespace Go.Proofs.YtaoomkkhpianlaaGreatDoor
open Go.RowKit Go.Sort
set_option linter.unusedVariables false
set_option linter.unusedSimpArgs false

/-- The first marks are shifted, the others not yet. -/
def mixL (pa : ByteArray) (d : Int) (l : List Mark) (k : Nat) : List Mark := shiftL pa d (l.take k) ++ l.drop k
theorem mixL_zero (pa : ByteArray) (d : Int) (l : List Mark) : mixL pa d l 0 = l := by unfold mixL shiftL; simp
theorem mixL_all (pa : ByteArray) (d : Int) (l : List Mark) : mixL pa d l l.length = shiftL pa d l := by unfold mixL; simp
theorem mixL_length (pa : ByteArray) (d : Int) (l : List Mark) (k : Nat) (hk : k ≤ l.length) : (mixL pa d l k).length = l.length := by unfold mixL shiftL; simp; omega
theorem mixL_at (pa : ByteArray) (d : Int) (l : List Mark) (k : Nat) (hk : k < l.length) : (mixL pa d l k)[k]? = some l[k] := by
  unfold mixL shiftL
  rw [List.getElem?_append_right (by simp; omega)]
  simp [Nat.min_eq_left (Nat.le_of_lt hk), List.getElem?_drop, List.getElem?_eq_getElem hk]
theorem mixL_set (pa : ByteArray) (d : Int) (l : List Mark) (k : Nat) (hk : k < l.length) : mixL pa d l (k + 1) = (mixL pa d l k).set k (if l[k].2.1 = pa then (l[k].1, l[k].2.1, l[k].2.2 + d) else l[k]) := by
  unfold mixL
  rw [List.set_append_right _ _ (by unfold shiftL; simp; omega)]
  have e : k - (shiftL pa d (l.take k)).length = 0 := by unfold shiftL; simp; omega
  rw [e, List.drop_eq_getElem_cons hk, List.set_cons_zero, List.take_succ_eq_append_getElem hk]
  unfold shiftL
  rw [List.map_append, List.append_assoc]
  rfl
theorem mixL_skip (pa : ByteArray) (d : Int) (l : List Mark) (k : Nat) (hk : k < l.length) (h : ¬ l[k].2.1 = pa) : mixL pa d l (k + 1) = mixL pa d l k := by
  have h1 := mixL_at pa d l k hk
  rw [mixL_set pa d l k hk, if_neg h]
  refine List.ext_getElem? fun i => ?_
  rw [List.getElem?_set]
  split
  · rename_i e
    subst e
    split
    · exact h1.symm
    · rename_i h2
      rw [List.getElem?_eq_none (by omega)]
  · rfl
theorem any_snoc {α : Type} (p : α → Bool) (l : List α) (x : α) : (l ++ [x]).any p = (l.any p || p x) := by simp

set_option maxRecDepth 100000 in
set_option maxHeartbeats 2000000 in
theorem shift_any (l : List Mark) (a : Option Addr) (cap : Nat) (pa : ByteArray) (d : Int) (w : World) (hs : SA w a l) (hf : a = none ∨ ∃ b off, a = some ⟨b, off, none⟩) (hl : l.length ≤ 400) (hks : ∀ x ∈ l, x.1.size ≤ 1000 ∧ x.2.1.size ≤ 1000) :
    Calls Tryz.prog 22 #[.slice a l.length cap, .string pa, .int .i64 d] w (fun e w' => Below w.heap.size w w' ∧ ∃ a2 n cap2, e = .returned (.tuple #[.slice a2 n cap2, .int .i64 (if marksFault l ≠ 0 then marksFault l else shiftE l pa d)]) ∧ (((if marksFault l ≠ 0 then marksFault l else shiftE l pa d) = 0 ∧ n = l.length ∧ SA w' a2 (shiftL pa d l)) ∨ ((if marksFault l ≠ 0 then marksFault l else shiftE l pa d) ≠ 0 ∧ n = 0))) := by
  have HE1 : Hid (marksFault l ≠ 0 → (if marksFault l ≠ 0 then marksFault l else shiftE l pa d) = marksFault l) := fun h => by rw [if_pos h]
  have HE2 : Hid (marksFault l = 0 → (if marksFault l ≠ 0 then marksFault l else shiftE l pa d) = shiftE l pa d) := fun h => by rw [if_neg (by simpa using h)]
  generalize (if marksFault l ≠ 0 then marksFault l else shiftE l pa d) = oe at *
  generalize hout : shiftL pa d l = out at *
  have HO := Lib.hid hout
  clear hout
  go_enter Tryz.func22, Tryz.ntmps22
  go_wp2_with fail
  refine (checked_any l a cap _ hs (by omega) hks).mono ?_
  rintro e w1 ⟨hb1, h1⟩
  rcases h1 with ⟨h0, rfl⟩ | ⟨h0, sb, rfl, hsh, hsb⟩
  · have h0' : (marksFault l != 0) = true := by simpa using h0
    have H0 := Lib.hid h0
    have HE := Lib.hid (HE1.out h0)
    clear h0
    go_wp2_with fail
    go_ret2
    exact ⟨hb1, none, 0, 0, by rw [HE.out] <;> rfl, .inr ⟨by rw [HE.out]; exact H0.out, rfl⟩⟩
  · obtain ⟨b1, b2, base, a', cap', es1, es2, hst, hsa'⟩ := hsh
    have H0 := Lib.hid h0
    have hok := fault_scores h0
    have HE := Lib.hid (HE2.out h0)
    clear h0
    unfold shiftE at HE
    have hS := hst.box
    have hval := hst.two.vals pa
    have hlk := hst.two.look pa
    obtain ⟨av, capv, hv, hsav, _, _⟩ := hval.sa
    rw [hv] at hlk
    have hS_l := hS.lt; have hS_0 := hS.cell 0; have hS_1 := hS.cell 1; have hS_2 := hS.cell 2; simp at hS_0 hS_1 hS_2
    by_cases hm : sel (fun x => x.2.1) pa l = []
    · rw [hm] at hlk
      rw [if_pos hm] at HE
      clear hm hval hst hv hsav
      go_wp2_with fail
      go_ret2
      exact ⟨hb1, none, 0, 0, by rw [HE.out] <;> rfl, .inr ⟨by rw [HE.out]; decide, rfl⟩⟩
    · rw [if_neg hm] at HE
      have hlp := List.length_pos_iff.2 hm
      have hlne : l ≠ [] := by intro e; rw [e] at hm; exact hm rfl
      have hne : (((sel (fun x => x.2.1) pa l).length : Int) == 0) = false := by simp; omega
      clear hm hval hst hv
      generalize (sel (fun x => x.2.1) pa l).length = sl at *
      go_wp2_with fail
      refine (cloneMark_any l a cap w1 (hs.below hb1) hf (by omega)).mono ?_
      rintro e w2 ⟨v2, rfl, hown, hb2⟩
      have hbw2 := below_next hb1 hb2
      obtain ⟨a2, cap2, rfl, hsa2, hf2, hcap2⟩ := hown.form
      obtain ⟨g, rfl, hg1, hg2⟩ : ∃ g, a2 = some ⟨g, 0, none⟩ ∧ w1.heap.size ≤ g ∧ g < w2.heap.size := by
        rcases hf2 with rfl | ⟨g, rfl, h1, h2⟩
        · rcases hsa2 with h | ⟨b, off, h, _⟩
          · exact absurd h hlne
          · cases h
        · exact ⟨g, rfl, h1, h2⟩
      clear hsa2 hf2 hcap2 hsav
      clear hS_l hS_0 hS_1 hS_2
      clear hS hb2
      have hwg : w.heap.size ≤ g := by have := hb1.size; omega
      go_wp2_with fail
      clear hlk hlp
      go_loopg [33] l.length (fun gk i wr => ∃ k : Nat, i = .int .i64 k ∧ k ≤ l.length ∧ Hid (gk = l.length - k) ∧ Own w1.heap.size 54 wr (.slice (some ⟨g, 0, none⟩) l.length cap2) (mixL pa d l k) ∧ Hid ((l.take k).any (shBad pa d) = false) ∧ Below w.heap.size w wr ∧ g < wr.heap.size)
      case atStart => exact ⟨0, rfl, by omega, rfl, by rw [mixL_zero]; exact hown, rfl, hbw2, hg2⟩
      clear hown hbw2 hg2
      obtain ⟨k, rfl, hk, hgk, hown, hbad, hb, hgw⟩ := hrel
      have hzr := hb.size
      by_cases hlt : k < l.length
      · have hmxl : (mixL pa d l k).length = l.length := mixL_length pa d l k hk
        have hk2 : k < (mixL pa d l k).length := by omega
        have hmx := mixL_at pa d l k hlt
        rw [List.getElem?_eq_getElem hk2] at hmx
        have hmx' := Option.some.inj hmx
        obtain ⟨mb, moff, ha', c0, c1, c2⟩ := (show SA wr (some ⟨g, 0, none⟩) (mixL pa d l k) from by obtain ⟨a', c', he, hh, _⟩ := hown.sa; simp only [Value.slice.injEq] at he; rw [he.1]; exact hh).mark hk2
        cases ha'
        rw [Nat.zero_add] at c0 c1 c2
        rw [hmx'] at c0 c1 c2
        obtain ⟨cur, hbx⟩ := hown.box
        have hfr := hbx.frozen (k * 3 + 2)
        have Hset := Lib.hid (mixL_set pa d l k hlt)
        have Hskip := Lib.hid (mixL_skip pa d l k hlt)
        have Hany := Lib.hid (any_snoc (shBad pa d) (l.take k) l[k])
        rw [← List.take_succ_eq_append_getElem hlt] at Hany
        have Hmem := Lib.hid (List.getElem_mem hlt)
        have hxs := hok l[k] (List.getElem_mem hlt)
        have Helt := Lib.hid hmx'
        clear hmx hmx' hbx
        generalize l[k] = x at *
        obtain ⟨x1, x2, x3⟩ := x
        simp only at c0 c1 c2 hxs Hset Hskip
        have HC := Lib.hid (fun W => outside_any d (-x3) (10 - x3) W)
        have hbt : Below w.heap.size w (wr.alloc (.cells #[.string x1, .string x2, .int .i64 x3] 54)) := hb.alloc hzr _
        have hwx1 : IntKind.i64.wrap (-x3) = -x3 := IntWalk.i64_in _ (by omega)
        have hwx2 : IntKind.i64.wrap (10 - x3) = 10 - x3 := IntWalk.i64_in _ (by omega)
        by_cases hp : x2 = pa
        · have e1 := tl_eq' hp
          have e4 := tl_eq hp
          have e3 : x2.toList = pa.toList := by rw [hp]
          rw [if_pos hp] at Hset
          have HB := Lib.hid (show shBad pa d (x1, x2, x3) = (decide (d < -x3) || decide (10 - x3 < d)) by unfold shBad; simp [hp])
          clear hp Hskip
          by_cases hbd : d < -x3 ∨ 10 - x3 < d
          · rw [show (decide (d < -x3) || decide (10 - x3 < d)) = true by simpa using hbd] at HC HB
            have HE2 : Hid (oe = 1) := by
              show _ = _
              rw [HE.out, if_pos]
              exact List.any_eq_true.2 ⟨_, Hmem.out, HB.out⟩
            clear hbd
            go_wp2_with fail
            refine (HC.out _).mono ?_
            rintro e w'' ⟨rfl, rfl⟩
            go_wp2_with fail
            go_ret2
            exact ⟨hbt, none, 0, 0, by rw [HE2.out] <;> rfl, .inr ⟨by rw [HE2.out]; decide, rfl⟩⟩
          · rw [show (decide (d < -x3) || decide (10 - x3 < d)) = false by simpa using hbd] at HC HB
            have hbd2 : -x3 ≤ d ∧ d ≤ 10 - x3 := by omega
            clear hbd
            have hownt := hown.alloc (.cells #[.string x1, .string x2, .int .i64 x3] 54)
            obtain ⟨cur, hbx⟩ := hown.box
            have hfr2 := hbx.frozen (k * 3 + 2)
            have hput2 := (hown.put k 2 (x1, x2, x3 + d) (.int .i64 (x3 + d)) hk2 (by decide) (by rw [Helt.out]; rfl)).alloc (.cells #[.string x1, .string x2, .int .i64 x3] 54)
            rw [← Hset.out, show k * Cel.k Mark + 2 = k * 3 + 2 from rfl] at hput2
            have hwd : IntKind.i64.wrap (x3 + d) = x3 + d := IntWalk.i64_in _ (by omega)
            have hcl2 : (wr.alloc (.cells #[.string x1, .string x2, .int .i64 x3] 54)).cell? ⟨g, k * 3 + 2, none⟩ = some (.int .i64 x3) := by
              rw [World.cell?_of_block (w := wr) (a := ⟨g, k * 3 + 2, none⟩) (Below.heap_alloc _ _ _ hgw)]; exact c2
            have hb3 := (hb.setCell (p := ⟨g, k * 3 + 2, none⟩) hwg (.int .i64 (x3 + d))).alloc (by simpa [World.setCell] using hzr) (.cells #[.string x1, .string x2, .int .i64 x3] 54)
            go_wp2_with fail
            refine (HC.out _).mono ?_
            rintro e w'' ⟨rfl, rfl⟩
            clear hbx
            go_wp2_with fail
            go_roundg (l.length - (k + 1))
            case measure => have := hgk.out; omega
            case rel => exact ⟨k + 1, by go_num, by omega, rfl, hput2, by show _ = _; rw [Hany.out, hbad.out, HB.out]; rfl, hb3, by simp [World.setCell]; omega⟩
        · have e1 := tl_ne' hp
          have e4 := tl_ne hp
          have e3 : ¬ x2.toList = pa.toList := fun h => hp (toList_inj.1 h)
          have HB := Lib.hid (show shBad pa d (x1, x2, x3) = false by unfold shBad; simp [hp])
          have Hs2 := Lib.hid (Hskip.out hp)
          clear hp Hset
          go_wp2_with fail
          go_roundg (l.length - (k + 1))
          case measure => have := hgk.out; omega
          case rel => exact ⟨k + 1, by go_num, by omega, rfl, by rw [Hs2.out]; exact hown.alloc _, by show _ = _; rw [Hany.out, hbad.out, HB.out]; rfl, hbt, by simp; omega⟩
      · obtain rfl : k = l.length := by omega
        rw [List.take_length] at hbad
        rw [mixL_all, HO.out] at hown
        have hol : out.length = l.length := by rw [← HO.out]; unfold shiftL; rw [List.length_map]
        have hsao : SA wr (some ⟨g, 0, none⟩) out := by obtain ⟨a', c', he, hh, _⟩ := hown.sa; simp only [Value.slice.injEq] at he; rw [he.1]; exact hh
        have HE2 : Hid (oe = 0) := by
          show _ = _
          rw [HE.out, hbad.out]; rfl
        have Hol := Lib.hid hol
        clear hlt hown hol
        go_wp2_with fail
        go_ret2
        exact ⟨hb, some ⟨g, 0, none⟩, l.length, cap2, by rw [HE2.out] <;> rfl, .inl ⟨HE2.out, rfl, hsao⟩⟩

set_option maxRecDepth 100000 in
set_option maxHeartbeats 2000000 in
theorem shiftOf_any (l : List Mark) (a : Option Addr) (cap : Nat) (pa : ByteArray) (d : Int) (w : World) (hs : SA w a l) (hf : a = none ∨ ∃ b off, a = some ⟨b, off, none⟩) (hl : l.length ≤ 400) (h0 : marksFault l = 0) (hd1 : -5000000000000000000 ≤ d) (hd2 : d ≤ 5000000000000000000) :
    Calls Tryz.prog 28 #[.slice a l.length cap, .string pa, .int .i64 d] w (fun e w' => Below w.heap.size w w' ∧ ∃ a2 n cap2, e = .returned (.tuple #[.slice a2 n cap2, .int .i64 (shiftE l pa d)]) ∧ ((shiftE l pa d = 0 ∧ n = l.length ∧ SA w' a2 (shiftL pa d l)) ∨ (shiftE l pa d ≠ 0 ∧ n = 0))) := by
  have hok := fault_scores h0
  have HE := Lib.hid (show shiftE l pa d = if sel (fun x => x.2.1) pa l = [] then 8 else if l.any (shBad pa d) then 1 else 0 from rfl)
  generalize shiftE l pa d = oe at *
  generalize hout : shiftL pa d l = out at *
  have HO := Lib.hid hout
  clear hout h0
  go_enter Tryz.func28, Tryz.ntmps28
  go_wp2_with fail
  refine (cloneMark_any l a cap w hs hf (by omega)).mono ?_
  rintro e w2 ⟨v2, rfl, hown, hb2⟩
  obtain ⟨a2, cap2, rfl, hsa2, hf2, hcap2⟩ := hown.form
  have hg : l ≠ [] → ∃ g, a2 = some ⟨g, 0, none⟩ ∧ w.heap.size ≤ g ∧ g < w2.heap.size := fun hlne => by
    rcases hf2 with rfl | ⟨g, rfl, h1, h2⟩
    · rcases hsa2 with h | ⟨b, off, h, _⟩
      · exact absurd h hlne
      · cases h
    · exact ⟨g, rfl, h1, h2⟩
  have Hg := Lib.hid hg
  clear hsa2 hf2 hcap2 hg
  go_wp2_with fail
  go_loopg [9, 10, 17] l.length (fun gk fv bv i wr => ∃ k : Nat, i = .int .i64 k ∧ k ≤ l.length ∧ Hid (gk = l.length - k) ∧ fv = .bool (!decide (sel (fun x => x.2.1) pa (l.take k) = [])) ∧ bv = .bool ((l.take k).any (shBad pa d)) ∧ Own w.heap.size 54 wr (.slice a2 l.length cap2) (mixL pa d l k) ∧ Below w.heap.size w wr ∧ w2.heap.size ≤ wr.heap.size)
  case atStart => exact ⟨0, rfl, by omega, rfl, rfl, rfl, by rw [mixL_zero]; exact hown, hb2, Nat.le_refl _⟩
  clear hown hb2
  obtain ⟨k, rfl, hk, hgk, rfl, rfl, hown, hb, hgw⟩ := hrel
  have hzr := hb.size
  by_cases hlt : k < l.length
  · obtain ⟨g, rfl, hg1, hg2⟩ := Hg.out (by intro e; rw [e] at hlt; simp at hlt)
    have hgr : g < wr.heap.size := by omega
    obtain ⟨mb, moff, ha, c0, c1, c2⟩ := (hs.below hb).mark hlt
    have hmxl : (mixL pa d l k).length = l.length := mixL_length pa d l k hk
    have hk2 : k < (mixL pa d l k).length := by omega
    have hmx := mixL_at pa d l k hlt
    rw [List.getElem?_eq_getElem hk2] at hmx
    have hmx' := Option.some.inj hmx
    obtain ⟨mb', moff', ha', d0, d1, d2⟩ := (show SA wr (some ⟨g, 0, none⟩) (mixL pa d l k) from by obtain ⟨a', c', he, hh, _⟩ := hown.sa; simp only [Value.slice.injEq] at he; rw [he.1]; exact hh).mark hk2
    cases ha'
    rw [Nat.zero_add] at d0 d1 d2
    rw [hmx'] at d0 d1 d2
    have Hset := Lib.hid (mixL_set pa d l k hlt)
    have Hskip := Lib.hid (mixL_skip pa d l k hlt)
    have Hany := Lib.hid (any_snoc (shBad pa d) (l.take k) l[k])
    have Hsel := Lib.hid (sel_snoc (fun x => x.2.1) pa (l.take k) l[k])
    rw [← List.take_succ_eq_append_getElem hlt] at Hany Hsel
    have hxs := hok l[k] (List.getElem_mem hlt)
    have Helt := Lib.hid hmx'
    clear hmx hmx' d0 d1
    rw [ha]
    generalize l[k] = x at *
    obtain ⟨x1, x2, x3⟩ := x
    simp only at c0 c1 c2 d2 hxs Hset Hskip Hsel
    have hbt : Below w.heap.size w (wr.alloc (.cells #[.string x1, .string x2, .int .i64 x3] 54)) := hb.alloc hzr _
    have hwx1 : IntKind.i64.wrap (-x3) = -x3 := IntWalk.i64_in _ (by omega)
    have hwx2 : IntKind.i64.wrap (10 - x3) = 10 - x3 := IntWalk.i64_in _ (by omega)
    by_cases hp : x2 = pa
    · have e1 := tl_eq' hp
      have e3 : x2.toList = pa.toList := by rw [hp]
      have e4 := tl_eq hp
      rw [if_pos hp] at Hset Hsel
      have HB := Lib.hid (show shBad pa d (x1, x2, x3) = (decide (d < -x3) || decide (10 - x3 < d)) by unfold shBad; simp [hp])
      generalize shBad pa d (x1, x2, x3) = pb at *
      clear hp Hskip
      have hownt := hown.alloc (.cells #[.string x1, .string x2, .int .i64 x3] 54)
      obtain ⟨cur, hbx⟩ := hown.box
      have hfr2 := hbx.frozen (k * 3 + 2)
      have hput2 := (hown.put k 2 (x1, x2, x3 + d) (.int .i64 (x3 + d)) hk2 (by decide) (by rw [Helt.out]; rfl)).alloc (.cells #[.string x1, .string x2, .int .i64 x3] 54)
      rw [← Hset.out, show k * Cel.k Mark + 2 = k * 3 + 2 from rfl] at hput2
      have hwd : IntKind.i64.wrap (x3 + d) = x3 + d := IntWalk.i64_in _ (by omega)
      have hcl2 : (wr.alloc (.cells #[.string x1, .string x2, .int .i64 x3] 54)).cell? ⟨g, k * 3 + 2, none⟩ = some (.int .i64 x3) := by
        rw [World.cell?_of_block (w := wr) (a := ⟨g, k * 3 + 2, none⟩) (Below.heap_alloc _ _ _ hgr)]; exact d2
      have hb3 := (hb.setCell (p := ⟨g, k * 3 + 2, none⟩) hg1 (.int .i64 (x3 + d))).alloc (by simpa [World.setCell] using hzr) (.cells #[.string x1, .string x2, .int .i64 x3] 54)
      have Hsel2 : Hid ((!decide (sel (fun x => x.2.1) pa (l.take (k + 1)) = [])) = true) := by show _ = _; rw [Hsel.out]; simp
      generalize hab : (l.take k).any (shBad pa d) = ab at *
      have Hab := Lib.hid hab
      clear hab hbx
      generalize (!decide (sel (fun x => x.2.1) pa (l.take k) = [])) = fb at *
      have hpb : ∀ q : Bool, pb = q → (ab || q) = (l.take (k + 1)).any (shBad pa d) := fun q hq => by rw [Hany.out, hq]
      have Hpb := Lib.hid hpb
      clear hpb
      cases ab
      · by_cases hx1 : d < -x3
        · have hd1' : decide (d < -x3) = true := decide_eq_true hx1
          have HPB := Lib.hid (Hpb.out true (by rw [HB.out, hd1']; rfl))
          go_wp2_with fail
          rw [← ha]
          go_roundg (l.length - (k + 1))
          case measure => have := hgk.out; omega
          case rel => exact ⟨k + 1, by go_num, by omega, rfl, by rw [Hsel2.out], by rw [← HPB.out]; rfl, hput2, hb3, by simp [World.setCell]; omega⟩
        · have hd1' : decide (d < -x3) = false := decide_eq_false hx1
          by_cases hx2 : 10 - x3 < d
          · have hd2' : decide (10 - x3 < d) = true := decide_eq_true hx2
            have HPB := Lib.hid (Hpb.out true (by rw [HB.out, hd1', hd2']; rfl))
            go_wp2_with fail
            rw [← ha]
            go_roundg (l.length - (k + 1))
            case measure => have := hgk.out; omega
            case rel => exact ⟨k + 1, by go_num, by omega, rfl, by rw [Hsel2.out], by rw [← HPB.out]; rfl, hput2, hb3, by simp [World.setCell]; omega⟩
          · have hd2' : decide (10 - x3 < d) = false := decide_eq_false hx2
            have HPB := Lib.hid (Hpb.out false (by rw [HB.out, hd1', hd2']; rfl))
            go_wp2_with fail
            rw [← ha]
            go_roundg (l.length - (k + 1))
            case measure => have := hgk.out; omega
            case rel => exact ⟨k + 1, by go_num, by omega, rfl, by rw [Hsel2.out], by rw [← HPB.out]; rfl, hput2, hb3, by simp [World.setCell]; omega⟩
      · have HPB := Lib.hid (Hpb.out pb rfl)
        go_wp2_with fail
        rw [← ha]
        go_roundg (l.length - (k + 1))
        case measure => have := hgk.out; omega
        case rel => exact ⟨k + 1, by go_num, by omega, rfl, by rw [Hsel2.out], by rw [← HPB.out]; rfl, hput2, hb3, by simp [World.setCell]; omega⟩
    · have e1 := tl_ne' hp
      have e4 := tl_ne hp
      have e3 : ¬ x2.toList = pa.toList := fun h => hp (toList_inj.1 h)
      rw [if_neg hp] at Hsel
      have HB := Lib.hid (show shBad pa d (x1, x2, x3) = false by unfold shBad; simp [hp])
      have Hs2 := Lib.hid (Hskip.out hp)
      clear hp Hset
      go_wp2_with fail
      rw [← ha]
      go_roundg (l.length - (k + 1))
      case measure => have := hgk.out; omega
      case rel => exact ⟨k + 1, by go_num, by omega, rfl, by rw [Hsel.out], by rw [Hany.out, HB.out, Bool.or_false], by rw [Hs2.out]; exact hown.alloc _, hbt, by simp; omega⟩
  · obtain rfl : k = l.length := by omega
    rw [List.take_length]
    rw [mixL_all, HO.out] at hown
    have hol : out.length = l.length := by rw [← HO.out]; unfold shiftL; rw [List.length_map]
    have hsao : SA wr a2 out := by obtain ⟨a', c', he, hh, _⟩ := hown.sa; simp only [Value.slice.injEq] at he; rw [he.1]; exact hh
    clear hlt hown hol
    by_cases hm : sel (fun x => x.2.1) pa l = []
    · rw [if_pos hm] at HE
      rw [decide_eq_true hm]
      clear hm
      go_wp2_with fail
      go_ret2
      exact ⟨hb, none, 0, 0, by rw [HE.out] <;> rfl, .inr ⟨by rw [HE.out]; decide, rfl⟩⟩
    · rw [if_neg hm] at HE
      rw [decide_eq_false hm]
      clear hm
      cases hb2 : l.any (shBad pa d)
      · rw [hb2] at HE
        go_wp2_with fail
        go_ret2
        exact ⟨hb, a2, l.length, cap2, by rw [HE.out] <;> rfl, .inl ⟨HE.out, rfl, hsao⟩⟩
      · rw [hb2] at HE
        go_wp2_with fail
        go_ret2
        exact ⟨hb, none, 0, ⟨0, by rw [HE.out] <;> rfl⟩, .inr ⟨by rw [HE.out]; decide, rfl⟩⟩
end Go.Proofs.YtaoomkkhpianlaaGreatDoor
