/- A list of events: the maker Events06. -/
import Derived.Test.YtnocceilpnmbpaaGreatDoorEvMk2
namespace Go.Proofs.YtnocceilpnmbpaaGreatDoor
open Go.RowKit
set_option linter.unusedVariables false
set_option linter.unusedSimpArgs false

theorem DeskL.mono {G : List Ev → Prop} {base base' : Nat} {w : World} {v : Value} (h : DeskL G base w v) (hb : base' ≤ base) : DeskL G base' w v := by
 obtain ⟨l, h1, h2, h3, h4⟩ := h
 exact ⟨l, ⟨h1.1.mono hb, fun e he => ⟨(h1.2 e he).1, fun y hy => by
  obtain ⟨g1, g2, g3⟩ := (h1.2 e he).2 y hy
  exact ⟨by omega, g2, g3⟩⟩⟩, h2, h3, h4⟩
/-- Some list of events. -/
def SomeEvs (G : List Ev → Prop) (S : Nat) (B : Int) (w : World) (e : Ending) (w' : World) : Prop :=
 ∃ v, e = .returned v ∧ DeskL G w.heap.size w' v ∧ Stp S w w' ∧ Strm S B w'
set_option maxRecDepth 100000 in
set_option maxHeartbeats 4000000 in
theorem events06_any (G : List Ev → Prop) (hG : Keeps G) (S : Nat) (B : Int) (w : World) (hs : Strm S B w) (hB : B ≤ 999980000) (hE : EnvE w) (hES : EnvSE S) : Calls Tryz.prog 6 #[.pointer (some ⟨S, 0, none⟩)] w (SomeEvs G S (B + 300) w) := by
 have hSl := hs.lt
 go_enter Tryz.func6, Tryz.ntmps6
 go_wp2_with fail
 refine (desks_any G hG S B w hs hB hE hES).mono ?_
 rintro e w1 ⟨b, vs, rfl, hb, hbx, hvs, hds, h1, s1⟩
 have hE1 : EnvE w1 := hE.stp h1 hES
 have hz1 := h1.size
 have hbl := hbx.lt
 replace hds : Hid (∀ i (h : i < vs.size), DeskL G w.heap.size w1 vs[i]) := fun i h => (hds i h).mono (by omega)
 have HE := Lib.hid (fun W (h : Below w1.heap.size w1 W) => hE1.below h)
 clear hE hs hE1
 go_wp2_with fail
 go_loopg [3, 11] 3 (fun gk v i wr => ∃ k : Nat, i = .int .i64 k ∧ k ≤ 3 ∧ Hid (gk = 3 - k) ∧ DeskL G w.heap.size wr v ∧ Below w1.heap.size w1 wr)
 case atStart => exact ⟨0, rfl, by omega, rfl, ⟨[], NL.nil _ _ _, by simp, fun e he => (by cases he), hG.nil⟩, Below.refl _ _⟩
 case round =>
  obtain ⟨k, rfl, hk, hgk, hdv, hbr⟩ := hrel
  have hDV := Lib.hid hdv
  obtain ⟨l, a, c, rfl, hsl, haf, had, hll, hok, hG1⟩ := hdv.form
  by_cases hlt : k < 3
  ·
   obtain ⟨l2, a2, c2, he2, hsl2, haf2, had2, hll2, hok2, hG2⟩ := ((hds.out k (by omega)).below hbr).form
   have hzr := hbr.size
   have cl : wr.cell? ⟨b, k, none⟩ = some (.slice a2 l2.length c2) := by rw [(hbx.below hbr).cell k, Array.getElem?_eq_getElem (by omega), he2]
   have HU := Lib.hid (unitedOf_any w.heap.size l l2 a a2 c c2 wr (HE.out _ hbr) (by omega) hsl hsl2 (by omega) (by omega) hok hok2 had had2)
   have HUd : Hid (∀ (W : World) (v : Value), NL w.heap.size 53 W v (uniteR l l2).2 → (uniteR l l2).1 = 0 → DeskL G w.heap.size W v) := fun W v h he => DeskL.united hG h he hok hok2 hG1 hG2
   clear hsl haf had hok hG1 hsl2 haf2 had2 hok2 hG2 he2
   go_wp2_with fail
   refine HU.out.mono ?_
   rintro e w5 ⟨v, rfl, hNL, hb5⟩
   have hb15 := below_next hbr hb5
   have hv5 := fun h => HUd.out w5 v hNL h
   obtain ⟨a5, c5, rfl, -, -, -⟩ := hNL.1.form
   clear HU HUd cl
   generalize uniteR l l2 = ur at *
   obtain ⟨er, ul⟩ := ur
   simp only at hNL hv5
   by_cases he : er = 0
   ·
    subst he
    have hv6 := hv5 rfl
    go_wp2_with fail
    go_roundg (3 - (k + 1))
    case measure => have := hgk.out; omega
    case rel => exact ⟨k + 1, by go_num, by omega, rfl, hv6, hb15⟩
   ·
    have he1 : (er == 0) = false := by simpa using he
    clear he
    go_wp2_with fail
    go_roundg (3 - (k + 1))
    case measure => have := hgk.out; omega
    case rel => exact ⟨k + 1, by go_num, by omega, rfl, hDV.out.below hb5, hb15⟩
  ·
   obtain rfl : k = 3 := by omega
   go_wp2_with fail
   go_ret
   exact ⟨_, rfl, hDV.out, h1.trans (Stp.of_below hbr), s1.below hbr⟩
end Go.Proofs.YtnocceilpnmbpaaGreatDoor
