/- The maker Order. -/
import Derived.Test.YtcjcdbhobehlpaaGreatDoorMakeList
import Derived.RegionTactic
import Derived.ChangeAlike
import Derived.BigRegion
import Derived.Test.YtcjcdbhobehlpaaGreatDoorOrd
import Derived.Test.YtcjcdbhobehlpaaGreatDoorStrs
import Derived.Test.YtcjcdbhobehlpaaGreatDoorKeep
import Derived.Deep.RegionLaw
/-! The maker Order. -/
namespace Go.Proofs.YtcjcdbhobehlpaaGreatDoor
open Go.RowKit
set_option linter.unusedVariables false
set_option linter.unusedSimpArgs false

theorem Tryz.infoInt : (Tryz.prog.info? 3).map (fun i => (i.zero, i.size, i.bytes)) = some (some (.int .i64 0), 1, 8) := by kernel_rfl
theorem SA.int {w : World} {a : Option Addr} {l : List Int} (h : SA w a l) {i : Nat} (hi : i < l.length) :
  ∃ b off, a = some ⟨b, off, none⟩ ∧ w.cell? ⟨b, off + i, none⟩ = some (.int .i64 l[i]) := by
 obtain ⟨b, off, ha, hc⟩ := h.at hi
 refine ⟨b, off, ha, ?_⟩
 have := hc 0 (by decide)
 rw [show off + (i * Cel.k Int + 0) = off + i from by show off + (i * 1 + 0) = _; omega] at this
 exact this
def InR (n : Nat) (x : Int) : Prop := 0 ≤ x ∧ x < n
/-- The numbers from 0 to n-1, or others of that range. -/
def SomeOrder (S : Nat) (B : Int) (n : Nat) (w : World) (e : Ending) (w' : World) : Prop :=
 ∃ (v : Value) (l : List Int), e = .returned v ∧ l.length = n ∧ (∀ x ∈ l, InR n x) ∧ Own w.heap.size 3 w' v l ∧ Stp S w w' ∧ Strm S B w'

set_option maxRecDepth 100000 in
set_option maxHeartbeats 8000000 in
theorem order_any (S : Nat) (B : Int) (n : Nat) (w : World) (hs : Strm S B w) (hB : B ≤ 999990000) (hn : n ≤ 1000) :
  Calls Tryz.prog 22 #[.pointer (some ⟨S, 0, none⟩), .int .i64 n] w (SomeOrder S (B + n) n w) := by
 have hS := hs.lt
 go_enter Tryz.func22, Tryz.ntmps22
 go_wp2_with fail
 go_loopg [5, 10] n (fun gk v i wr => ∃ (k : Nat) (acc : List Int), i = .int .i64 k ∧ k ≤ n ∧ Hid (gk = n - k) ∧ Hid (acc.length = k) ∧ Hid (∀ x ∈ acc, InR n x) ∧ Own w.heap.size 3 wr v acc ∧ Stp S w wr ∧ Strm S B wr)
 case atStart => exact ⟨0, [], rfl, by omega, rfl, rfl, by simp [Hid], Own.nil _ _ _, Stp.refl _ _, hs⟩
 case round =>
  clear hs
  obtain ⟨k, acc, rfl, hk, hgk, hal, hsa, hown, hst, hs⟩ := hrel
  have hz := hst.size
  by_cases hlt : k < n
  ·
   go_upto_region 6 with (at_builtin; refine wpList_append_one rfl _ _ 22 rfl w.heap.size 3 8 (.int .i64 0) Tryz.underlying22 Tryz.infoInt rfl _ acc rfl (hown.alloc _) (k : Int) _ rfl (Box.newAt _ _ _ _ ?c0) ?c1 ?c2 ?c3 ?_; rotate_left 4; intro v' w2 hown2 hg2)
   case c0 => rfl
   case c1 => have := hal.out; omega
   case c2 => have := hal.out; omega
   case c3 => simp; omega
   have s2 : Strm S B w2 := (hs.alloc _).grown hg2 (fun k hk => by have := (hown.lt k hk).1; omega)
   have h2 : Stp S w w2 := (hst.alloc _).grown hg2 (fun k hk => .inr (by have := (hown.lt k hk).1; omega))
   go_wp2_with fail
   go_roundg (n - (k + 1))
   case measure => have := hgk.out; omega
   case rel => exact ⟨k + 1, acc ++ [(k : Int)], by go_num, by omega, rfl, by show _ = _; rw [List.length_append, hal.out]; rfl, all_snoc hsa.out ⟨by omega, by omega⟩, hown2, h2, s2⟩
  ·
   obtain rfl : k = n := by omega
   clear hgk hz
   obtain ⟨a, cap, rfl, hsa0, hform, hcap⟩ := hown.form
   rw [hal.out] at hown ⊢
   clear hsa0
   go_wp2_with fail
   go_loopg [7] k (fun gk s7 wr => ∃ (i : Int) (l : List Int), s7 = .int .i64 i ∧ -1 ≤ i ∧ i < k ∧ Hid (gk = (i + 1).toNat) ∧ Hid (l.length = k) ∧ Hid (∀ x ∈ l, InR k x) ∧ Own w.heap.size 3 wr (.slice a k cap) l ∧ Stp S w wr ∧ Strm S (B + (k - 1 - i)) wr)
   case atStart => exact ⟨(k : Int) - 1, acc, rfl, by omega, by omega, by show _ = _; omega, hal, hsa, hown, hst, hs.mono (by omega)⟩
   case round =>
    clear hs hst hown hsa hal
    obtain ⟨i, l, rfl, hi1, hi2, hgk, hal, hsa, hown, hst, hs⟩ := hrel
    have hz := hst.size
    by_cases hi0 : 0 < i
    ·
     obtain ⟨ni, rfl⟩ := Int.eq_ofNat_of_zero_le (by omega : 0 ≤ i)
     go_wp2_with fail
     refine (next_any S (B + (k - 1 - ni)) (ni + 1) _ hs (by omega) (by omega) (by omega)).mono ?_
     rintro e w1 ⟨r, ⟨hr, hr2⟩, rfl, h1, s1⟩
     obtain ⟨nk, rfl⟩ := Int.eq_ofNat_of_zero_le hr
     have hst1 := hst.trans h1
     have hown1 := hown.stp h1 hS
     have hz1 := h1.size
     clear h1 hst hown hs
     have hil : ni < l.length := by rw [hal.out]; omega
     have hkl : nk < l.length := by rw [hal.out]; omega
     obtain ⟨a', cap', he, hsa1, hf1, _⟩ := hown1.form
     simp only [Value.slice.injEq] at he
     obtain ⟨rfl, -, -⟩ := he
     obtain ⟨g, off, ha, ci⟩ := hsa1.int hil
     obtain ⟨g', off', ha', ck⟩ := hsa1.int hkl
     rw [ha] at ha'
     cases ha'
     obtain ⟨g2, hg2, hg3, hg4⟩ : ∃ b, some (⟨g, off, none⟩ : Addr) = some ⟨b, 0, none⟩ ∧ w.heap.size ≤ b ∧ b < w1.heap.size := by
      rw [ha] at hf1
      rcases hf1 with hf1 | hf1
      ·
       cases hf1
      ·
       exact hf1
     cases hg2
     rw [Nat.zero_add] at ci ck
     rw [ha] at hown1 ⊢
     obtain ⟨cur, hbx⟩ := hown1.box
     have fi := hbx.frozen ni
     have fk := hbx.frozen nk
     have hp1 := hown1.put ni 0 l[nk] (.int .i64 l[nk]) hil (by decide) rfl
     have hp2 := hp1.put nk 0 l[ni] (.int .i64 l[ni]) (by simpa using hkl) (by decide) rfl
     have hsa2 : ∀ x ∈ (l.set ni l[nk]).set nk l[ni], InR k x := fun x hx => by
      rcases List.mem_or_eq_of_mem_set hx with hx | rfl
      ·
       rcases List.mem_or_eq_of_mem_set hx with hx | rfl
       ·
        exact hsa.out x hx
       ·
        exact hsa.out _ (List.getElem_mem hkl)
      ·
       exact hsa.out _ (List.getElem_mem hil)
     have Hl2 : Hid (((l.set ni l[nk]).set nk l[ni]).length = k) := by show _ = _; simp [hal.out]
     have Hsa2 := Lib.hid hsa2
     rw [show ni * Cel.k Int + 0 = ni from by show ni * 1 + 0 = ni; omega, show nk * Cel.k Int + 0 = nk from by show nk * 1 + 0 = nk; omega] at hp2
     generalize (l.set ni l[nk]).set nk l[ni] = l2 at *
     generalize l[ni] = xi at *
     generalize l[nk] = xk at *
     clear hsa2 hp1 hsa1 hf1 hbx
     have hni : (ni : Int) < (k : Int) := by omega
     have hnk : (nk : Int) < (k : Int) := by omega
     by_cases hek : ni = nk
     ·
      subst hek
      obtain rfl : xk = xi := by rw [ci] at ck; simpa using ck.symm
      go_wp2_with fail
      go_region
      all_goals
       go_wp2_with fail
       rw [← ha]
       go_roundg ni
       case measure => have := hgk.out; omega
       case rel => exact ⟨(ni : Int) - 1, l2, rfl, by omega, by omega, by show _ = _; omega, Hl2, Hsa2, by rw [ha]; exact hp2.drew, by (repeat' (first | with_reducible assumption | with_reducible exact Stp.refl _ _ | with_reducible refine Stp.setCell ?_ (Or.inr ?_) _ | with_reducible refine Stp.drewN ?_ _ | with_reducible refine Stp.drew ?_ | with_reducible refine Stp.alloc ?_ _ | omega | (simp; done) | (simp; omega))), Strm.mono (B := B + ((k : Int) - 1 - ni) + 1) (by (repeat' (first | with_reducible assumption | with_reducible refine Strm.setOther ?_ ?_ _ | with_reducible refine Strm.drewN ?_ _ | with_reducible refine Strm.drew ?_ | with_reducible refine Strm.alloc ?_ _ | omega | (simp; done) | (simp; omega)))) (by omega)⟩
     ·
      have hek2 : ¬ nk = ni := fun h => hek h.symm
      go_wp2_with fail
      go_region
      all_goals
       go_wp2_with fail
       rw [← ha]
       go_roundg ni
       case measure => have := hgk.out; omega
       case rel => exact ⟨(ni : Int) - 1, l2, rfl, by omega, by omega, by show _ = _; omega, Hl2, Hsa2, by rw [ha]; exact hp2.drew, by (repeat' (first | with_reducible assumption | with_reducible exact Stp.refl _ _ | with_reducible refine Stp.setCell ?_ (Or.inr ?_) _ | with_reducible refine Stp.drewN ?_ _ | with_reducible refine Stp.drew ?_ | with_reducible refine Stp.alloc ?_ _ | omega | (simp; done) | (simp; omega))), Strm.mono (B := B + ((k : Int) - 1 - ni) + 1) (by (repeat' (first | with_reducible assumption | with_reducible refine Strm.setOther ?_ ?_ _ | with_reducible refine Strm.drewN ?_ _ | with_reducible refine Strm.drew ?_ | with_reducible refine Strm.alloc ?_ _ | omega | (simp; done) | (simp; omega)))) (by omega)⟩
    ·
     go_wp2_with fail
     go_ret
     exact ⟨_, l, rfl, hal.out, hsa.out, hown, hst, hs.mono (by omega)⟩
end Go.Proofs.YtcjcdbhobehlpaaGreatDoor
