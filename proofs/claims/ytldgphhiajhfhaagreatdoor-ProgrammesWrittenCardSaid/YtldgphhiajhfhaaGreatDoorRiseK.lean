/- Keys that must rise: RisingFault, risingKeys. -/
import Derived.Test.YtldgphhiajhfhaaGreatDoorKey
import Derived.Test.YtldgphhiajhfhaaGreatDoorList
namespace Go.Proofs.YtldgphhiajhfhaaGreatDoor
open Go.RowKit
set_option linter.unusedVariables false
set_option linter.unusedSimpArgs false

/-- The first error of keys that must rise. -/
def riseE (ks : List ByteArray) (i : Nat) : Int :=
 match ks[i]? with
 | none => 0
 | some x => if keyB x = false then 5 else if ordB ks i then 7 else 0
def riseFault (ks : List ByteArray) : Int := firstErr (riseE ks) ks.length
theorem isKey_gives (s : ByteArray) (w : World) (hs : s.size ≤ 9223372036854775807) : Calls Tryz.prog 128 #[.string s] w (Gives (.bool (keyB s)) w) :=
 (isKey_any s w hs).mono fun e w' ⟨h1, h2⟩ => ⟨h1, by subst h2; exact Below.refl _ _⟩

set_option maxRecDepth 100000 in
set_option maxHeartbeats 4000000 in
theorem risingFault_any (s : List ByteArray) (a : Option Addr) (cap : Nat) (w : World) (hs : SA w a s) (hsl : s.length ≤ 1000000) (hsm : ∀ x ∈ s, x.size ≤ 1000) :
  Calls Tryz.prog 130 #[.slice a s.length cap] w (Gives (.int .i64 (riseFault s)) w) := by
 unfold riseFault
 have HK := Lib.hid isKey_gives
 go_enter Tryz.func130, Tryz.ntmps130
 go_wp2_with fail
 go_loopg [7] s.length (fun gk i wr => ∃ k : Nat, i = .int .i64 k ∧ k ≤ s.length ∧ Hid (gk = s.length - k) ∧ Hid (∀ j, j < k → riseE s j = 0) ∧ Below w.heap.size w wr)
 case atStart => exact ⟨0, rfl, by omega, rfl, fun j hj => by omega, Below.refl _ _⟩
 case round =>
  obtain ⟨k, rfl, hk, hgk, hf, hb⟩ := hrel
  by_cases hlt : k < s.length
  ·
   obtain ⟨b, off, ha, c0⟩ := (hs.below hb).str hlt
   have hE : riseE s k = if keyB s[k] = false then 5 else if ordB s k then 7 else 0 := by
    unfold riseE; rw [List.getElem?_eq_getElem hlt]
   have HE := Lib.hid hE
   have hxs := hsm s[k] (List.getElem_mem hlt)
   clear hE
   rw [ha]
   generalize hx : s[k] = x1 at *
   have Hx := Lib.hid hx
   clear hx
   have hz := hb.size
   have Hfe := Lib.hid (fun (e : Int) he he0 => firstErr_is (f := riseE s) (e := e) hlt hf.out he he0)
   go_wp2_with fail
   refine (HK.out x1 _ (by omega)).mono ?_
   rintro e w1 ⟨rfl, hb1⟩
   have hb1' : Below w.heap.size w w1 := below_next hb hb1
   cases hh : keyB x1
   ·
    rw [hh] at HE
    have He := Lib.hid (Hfe.out 5 (by rw [HE.out]; rfl) (by decide))
    go_wp2_with fail
    go_ret
    exact ⟨by rw [He.out]; rfl, hb1'⟩
   ·
    rw [hh] at HE
    go_upto_region 6 with (fail)
    go_cut [25] (fun v wx => v = .bool (ordB s k) ∧ ∃ n, wx = w1.drewN n)
    case first =>
     by_cases hk0 : k = 0
     ·
      have hd : decide (0 < k) = false := by simp [hk0]
      have hd' : decide ((0 : Int) < (k : Int)) = false := by simp [hk0]
      have ho0 : ordB s k = false := by rw [hk0]; rfl
      have Ho := Lib.hid ho0
      clear hk0 ho0
      go_wp2_with fail
      skip
      go_meet
      exact ⟨by rw [Ho.out] <;> rfl, 0, rfl⟩
     ·
      obtain ⟨p, hp⟩ : ∃ p, k = p + 1 := ⟨k - 1, by omega⟩
      have hpl : p < s.length := by omega
      obtain ⟨b', off', ha', d0⟩ := (hs.below hb1').str hpl; generalize hy : s[p] = y at *; have Hy := Lib.hid hy; clear hy
      rw [ha] at ha'
      cases ha'
      have Ho := Lib.hid (ordB_at (ks := s) (k := k) (p := p) (x := x1) (y := y) hp (by have := Hx.out; simp [List.getElem?_eq_getElem hlt, this]) (by have := Hy.out; simp [List.getElem?_eq_getElem hpl, this]))
      have hwp : IntKind.i64.wrap ((k : Int) - 1) = (p : Int) := by rw [hp, IntWalk.i64_in _ (by omega)]; omega
      have hk1 : 0 < k := by omega
      have hk2 : (0 : Int) < (k : Int) := by omega
      have hp1 : (0 : Int) ≤ (p : Int) := by omega
      have hp2 : (p : Int) < (s.length : Int) := by omega
      have hp3 : (k : Int) - 1 = (p : Int) := by omega
      have Hp := Lib.hid hp
      clear hp hk0
      go_wp2_with fail
      skip
      go_meet
      exact ⟨by rw [Ho.out] <;> rfl, 0, rfl⟩
    case rest =>
     obtain ⟨hso, n, rfl⟩ := hcut
     rw [hso]
     cases hob : ordB s k
     ·
      rw [hob] at HE
      go_wp2_with fail
      rw [← ha]
      go_roundg (s.length - (k + 1))
      case measure => have := hgk.out; omega
      case rel => exact ⟨k + 1, by go_num, by omega, rfl, zeros_succ hf.out (by rw [HE.out]; rfl), below_drewN hb1' _⟩
     ·
      rw [hob] at HE
      have He := Lib.hid (Hfe.out 7 (by rw [HE.out]; rfl) (by decide))
      go_wp2_with fail
      go_ret
      exact ⟨by rw [He.out]; rfl, below_drewN hb1' _⟩
  ·
   have hE0 : firstErr (riseE s) s.length = 0 := by
    obtain rfl : k = s.length := by omega
    exact firstErr_zero hf.out
   have HE0 := Lib.hid hE0
   clear hE0
   go_wp2_with fail
   go_ret
   exact ⟨by rw [HE0.out]; rfl, hb⟩
set_option maxRecDepth 100000 in
set_option maxHeartbeats 4000000 in
theorem risingKeys_any (s : List ByteArray) (a : Option Addr) (cap : Nat) (w : World) (hs : SA w a s) (hsl : s.length ≤ 1000000) (hsm : ∀ x ∈ s, x.size ≤ 1000) :
  Calls Tryz.prog 93 #[.slice a s.length cap] w (Gives (.int .i64 (riseFault s)) w) := by
 unfold riseFault
 have HK := Lib.hid keyOf_any
 go_enter Tryz.func93, Tryz.ntmps93
 go_wp2_with fail
 go_loopg [7] s.length (fun gk i wr => ∃ k : Nat, i = .int .i64 k ∧ k ≤ s.length ∧ Hid (gk = s.length - k) ∧ Hid (∀ j, j < k → riseE s j = 0) ∧ Below w.heap.size w wr)
 case atStart => exact ⟨0, rfl, by omega, rfl, fun j hj => by omega, Below.refl _ _⟩
 case round =>
  obtain ⟨k, rfl, hk, hgk, hf, hb⟩ := hrel
  by_cases hlt : k < s.length
  ·
   obtain ⟨b, off, ha, c0⟩ := (hs.below hb).str hlt
   have hE : riseE s k = if keyB s[k] = false then 5 else if ordB s k then 7 else 0 := by
    unfold riseE; rw [List.getElem?_eq_getElem hlt]
   have HE := Lib.hid hE
   have hxs := hsm s[k] (List.getElem_mem hlt)
   clear hE
   rw [ha]
   generalize hx : s[k] = x1 at *
   have Hx := Lib.hid hx
   clear hx
   have hz := hb.size
   have Hfe := Lib.hid (fun (e : Int) he he0 => firstErr_is (f := riseE s) (e := e) hlt hf.out he he0)
   go_wp2_with fail
   refine (HK.out x1 _ (by omega)).mono ?_
   rintro e w1 ⟨rfl, hb1⟩
   have hb1' : Below w.heap.size w w1 := below_next hb hb1
   cases hh : keyB x1
   ·
    rw [hh] at HE
    have He := Lib.hid (Hfe.out 5 (by rw [HE.out]; rfl) (by decide))
    go_wp2_with fail
    go_ret
    exact ⟨by rw [He.out]; rfl, hb1'⟩
   ·
    rw [hh] at HE
    go_upto_region 6 with (fail)
    go_cut [25] (fun v wx => v = .bool (ordB s k) ∧ ∃ n, wx = w1.drewN n)
    case first =>
     by_cases hk0 : k = 0
     ·
      have hd : decide (0 < k) = false := by simp [hk0]
      have hd' : decide ((0 : Int) < (k : Int)) = false := by simp [hk0]
      have ho0 : ordB s k = false := by rw [hk0]; rfl
      have Ho := Lib.hid ho0
      clear hk0 ho0
      go_wp2_with fail
      skip
      go_meet
      exact ⟨by rw [Ho.out] <;> rfl, 0, rfl⟩
     ·
      obtain ⟨p, hp⟩ : ∃ p, k = p + 1 := ⟨k - 1, by omega⟩
      have hpl : p < s.length := by omega
      obtain ⟨b', off', ha', d0⟩ := (hs.below hb1').str hpl; generalize hy : s[p] = y at *; have Hy := Lib.hid hy; clear hy
      rw [ha] at ha'
      cases ha'
      have Ho := Lib.hid (ordB_at (ks := s) (k := k) (p := p) (x := x1) (y := y) hp (by have := Hx.out; simp [List.getElem?_eq_getElem hlt, this]) (by have := Hy.out; simp [List.getElem?_eq_getElem hpl, this]))
      have hwp : IntKind.i64.wrap ((k : Int) - 1) = (p : Int) := by rw [hp, IntWalk.i64_in _ (by omega)]; omega
      have hk1 : 0 < k := by omega
      have hk2 : (0 : Int) < (k : Int) := by omega
      have hp1 : (0 : Int) ≤ (p : Int) := by omega
      have hp2 : (p : Int) < (s.length : Int) := by omega
      have hp3 : (k : Int) - 1 = (p : Int) := by omega
      have Hp := Lib.hid hp
      clear hp hk0
      go_wp2_with fail
      skip
      go_meet
      exact ⟨by rw [Ho.out] <;> rfl, 0, rfl⟩
    case rest =>
     obtain ⟨hso, n, rfl⟩ := hcut
     rw [hso]
     cases hob : ordB s k
     ·
      rw [hob] at HE
      go_wp2_with fail
      rw [← ha]
      go_roundg (s.length - (k + 1))
      case measure => have := hgk.out; omega
      case rel => exact ⟨k + 1, by go_num, by omega, rfl, zeros_succ hf.out (by rw [HE.out]; rfl), below_drewN hb1' _⟩
     ·
      rw [hob] at HE
      have He := Lib.hid (Hfe.out 7 (by rw [HE.out]; rfl) (by decide))
      go_wp2_with fail
      go_ret
      exact ⟨by rw [He.out]; rfl, below_drewN hb1' _⟩
  ·
   have hE0 : firstErr (riseE s) s.length = 0 := by
    obtain rfl : k = s.length := by omega
    exact firstErr_zero hf.out
   have HE0 := Lib.hid hE0
   clear hE0
   go_wp2_with fail
   go_ret
   exact ⟨by rw [HE0.out]; rfl, hb⟩
end Go.Proofs.YtldgphhiajhfhaaGreatDoor
