/- The maker of readers. -/
import Derived.Test.YtpgofjjcmldhpaaGreatDoorMakeBids
import Derived.Test.YtpgofjjcmldhpaaGreatDoorMake2
import Derived.Deep.CutBlock
namespace Go.Proofs.YtpgofjjcmldhpaaGreatDoor
open Go.RowKit
set_option linter.unusedVariables false
set_option linter.unusedSimpArgs false

def NoR (S : Nat) (r : Reader) : Prop := ∀ x : Addr, r.a = some x → x.block ≠ S
def ApR (v : Value) (r : Reader) : Prop := ∀ j, v.ownBlock = some j → ∀ x : Addr, r.a = some x → x.block ≠ j
def LtR (w : World) (r : Reader) : Prop := ∀ x : Addr, r.a = some x → x.block < w.heap.size
def RSz (r : Reader) : Prop := r.key.size ≤ 1000 ∧ r.skills.length ≤ 5
theorem RSz.small {r : Reader} (h : RSz r) : RSmall r := ⟨h.1, by have := h.2; omega⟩
/-- Readers are made. -/
def SomeReaders (S : Nat) (B : Int) (n : Nat) (w : World) (e : Ending) (w' : World) : Prop :=
  ∃ (v : Value) (rs : List Reader), e = .returned v ∧ rs.length ≤ n ∧ (∀ r ∈ rs, RSz r ∧ NoR S r) ∧ Own w.heap.size 92 w' v rs ∧ (∀ r ∈ rs, SA w' r.a r.skills) ∧ Stp S w w' ∧ Strm S B w'
theorem Tryz.infoReader : (Tryz.prog.info? 92).map (fun i => (i.zero, i.size, i.bytes)) = some (some (.agg #[.string ⟨#[]⟩, .slice none 0 0]), 2, 40) := by kernel_rfl

theorem readers_step {S : Nat} {B : Int} {w wr W w3 : World} {u : Value} {acc : List Reader} {nm : ByteArray} {sk : List Skill} {sa : Option Addr} {sc g9 n9 c9 T : Nat} {vs : Array Value}
    (hst : Stp S w wr) (hwW : Stp S wr W) (sW : Strm S B W) (hsk : SA W sa sk) (hblk : ∀ x : Addr, sa = some x → wr.heap.size ≤ x.block ∧ x.block < W.heap.size)
    (hown : Own w.heap.size 92 wr u acc) (hS : S < w.heap.size) (hg : (W.alloc (.cells vs T)).grownBy w3 u.ownBlock) (hat : u.ownBlock = some g9 ∨ g9 = (W.alloc (.cells vs T)).heap.size)
    (hrd : ∀ r ∈ acc, SA wr r.a r.skills ∧ ApR u r ∧ LtR wr r) (hno : ∀ r ∈ acc, NoR S r) :
    Stp S w w3 ∧ Strm S B w3 ∧ ∀ r ∈ acc ++ [(⟨nm, sk, sa, sc⟩ : Reader)], SA w3 r.a r.skills ∧ ApR (.slice (some ⟨g9, 0, none⟩) n9 c9) r ∧ LtR w3 r := by
  have hlt := hown.lt
  have hz := hwW.size
  have hz0 := hst.size
  have hzg := hg.size
  simp at hzg
  refine ⟨((hst.trans hwW).alloc _).grown hg (fun k hk => .inr (hlt k hk).1), (sW.alloc _).grown hg (fun k hk => by have := (hlt k hk).1; omega), fun r hr => ?_⟩
  have h9 : ∀ j, (Value.slice (some ⟨g9, 0, none⟩) n9 c9).ownBlock = some j → g9 = j := fun j hj => by simpa [Value.ownBlock] using hj
  rcases List.mem_append.1 hr with hr | hr
  · obtain ⟨q1, q2, q3⟩ := hrd r hr
    refine ⟨((q1.stp hwW (hno r hr)).alloc _).grownS hg (fun x hx e => q2 _ e.symm x hx rfl), fun j hj x hx => ?_, fun x hx => by have := q3 x hx; omega⟩
    obtain rfl := h9 j hj
    rcases hat with h | h
    · exact q2 _ h x hx
    · simp at h; have := q3 x hx; omega
  · rw [List.mem_singleton] at hr
    subst hr
    refine ⟨(hsk.alloc _).grownS hg (fun x hx e => by have := (hblk x hx).1; have := (hlt _ e.symm).2; omega), fun j hj x hx => ?_, fun x hx => by have := (hblk x hx).2; show x.block < _; omega⟩
    obtain rfl := h9 j hj
    have hb := hblk x hx
    rcases hat with h | h
    · have := (hlt _ h).2; omega
    · simp at h; omega

set_option maxRecDepth 100000 in
set_option maxHeartbeats 4000000 in
theorem readers_any (S : Nat) (B : Int) (most : Nat) (w : World) (hs : Strm S B w) (hB : B ≤ 999900000) (hm : most ≤ 4) :
    Calls Tryz.prog 7 #[.pointer (some ⟨S, 0, none⟩), .int .i64 most] w (SomeReaders S (B + 200) most w) := by
  have hS := hs.lt
  go_enter Tryz.func7, Tryz.ntmps7
  go_wp2_with fail
  refine (next_any S B (most + 1) w hs (by omega) (by omega) (by omega)).mono ?_
  rintro e w0 ⟨r, ⟨hr, hr2⟩, rfl, h0, s0⟩
  obtain ⟨m, rfl⟩ := Int.eq_ofNat_of_zero_le hr
  have hz0 := h0.size
  clear hs
  go_wp2_with fail
  go_loopg [5, 11] m (fun gk v i wr => ∃ (k : Nat) (acc : List Reader), i = .int .i64 k ∧ k ≤ m ∧ Hid (gk = m - k) ∧ acc.length ≤ k ∧ Hid (∀ r ∈ acc, RSz r ∧ NoR S r) ∧ Own w.heap.size 92 wr v acc ∧ Hid (∀ r ∈ acc, SA wr r.a r.skills ∧ ApR v r ∧ LtR wr r) ∧ Stp S w wr ∧ Strm S (B + 1 + 30 * k) wr)
  case atStart => exact ⟨0, [], rfl, by omega, rfl, by simp, by simp [Hid], Own.nil _ _ _, by simp [Hid], h0, by simpa using s0⟩
  case round =>
    clear h0 s0
    obtain ⟨k, acc, rfl, hk, hgk, hal, hsz, hown, hrd, hst, hs⟩ := hrel
    have hz := hst.size
    have hSr := hs.lt
    by_cases hlt : k < m
    · obtain ⟨nm, hnm, hcn⟩ : ∃ nm : ByteArray, nm.size ≤ 1000 ∧ (#[Value.string ⟨#[97, 110, 110]⟩, .string ⟨#[98, 111]⟩, .string ⟨#[99, 121]⟩, .string ⟨#[100, 101, 101]⟩, .string ⟨#[101, 118, 101]⟩])[k]? = some (.string nm) := by
        obtain rfl | rfl | rfl | rfl : k = 0 ∨ k = 1 ∨ k = 2 ∨ k = 3 := by omega
        · exact ⟨_, by decide, rfl⟩
        · exact ⟨_, by decide, rfl⟩
        · exact ⟨_, by decide, rfl⟩
        · exact ⟨_, by decide, rfl⟩
      have hk1 : (0 : Int) ≤ (k : Int) := by omega
      have hk2 : (k : Int) < 5 := by omega
      have hk3 : (k : Int) < ((5 : Nat) : Int) := by omega
      have hcl1 : (wr.alloc (.cells #[.string ⟨#[97, 110, 110]⟩, .string ⟨#[98, 111]⟩, .string ⟨#[99, 121]⟩, .string ⟨#[100, 101, 101]⟩, .string ⟨#[101, 118, 101]⟩] 9)).cell? ⟨wr.heap.size, k, none⟩ = some (.string nm) := by rw [(Box.new wr _ _).cell k]; exact hcn
      have Hcn := Lib.hid hcn
      have Hown := Lib.hid hown
      clear hown hcn
      go_upto_region 5 with (fail)
      go_region_law (first | (go_simp; go_at_call 49; refine (skills_any S (B + 1 + 30 * k) _ (by first | exact hs.drew | exact (hs.alloc _).drew | exact hs.drew.alloc _) (by omega)).mono ?_; rintro e w2 ⟨v2, sk, rfl, hsk5, hskk, hown2, h2, s2⟩; have hz2 := h2.size; simp at hz2; obtain ⟨sa, sc, rfl, hsa2, hbl2, _⟩ := hown2.sa; have hcl3 : (w2.alloc (.cells #[.string ⟨#[97, 110, 110]⟩, .string ⟨#[98, 111]⟩, .string ⟨#[99, 121]⟩, .string ⟨#[100, 101, 101]⟩, .string ⟨#[101, 118, 101]⟩] 9)).cell? ⟨w2.heap.size, k, none⟩ = some (.string nm) := (by rw [(Box.new w2 _ _).cell k]; exact Hcn.out); have hoA : Own w.heap.size 92 w2 u5 acc := (by first | exact Hown.out.drew.stp h2 (by omega) | exact (Hown.out.alloc _).drew.stp h2 (by omega)); (try (have hcl2 : w2.cell? ⟨wr.heap.size, k, none⟩ = some (.string nm) := (by rw [h2.cell (by simp) (by simp; omega)]; exact hcl1)))) | (refine step_append_lie (by rfl) _ _ 30 (by rfl) 92 40 (.agg #[.string ⟨#[]⟩, .slice none 0 0]) Tryz.underlying30 Tryz.infoReader (by rfl) u5 acc (by rfl) (by first | exact hoA.alloc _ | exact (hoA.alloc _).alloc _) (⟨nm, sk, sa, sc⟩ : Reader) _ (by rfl) (by first | exact Box.new _ _ _ | exact Box.newAt _ _ _ _ (by simp)) (by omega) (by omega) (by simp; omega) ?_; intro g9 cap9 w3 hown3 hg3 hat3))
      all_goals
        have HR : Stp S w w3 ∧ Strm S (B + 1 + 30 * k + 20) w3 ∧ ∀ r ∈ acc ++ [(⟨nm, sk, sa, sc⟩ : Reader)], SA w3 r.a r.skills ∧ ApR (.slice (some ⟨g9, 0, none⟩) (acc.length + 1) cap9) r ∧ LtR w3 r := by
          first
          | exact readers_step (W := w2) hst (((Stp.refl S wr).alloc (.cells #[.string ⟨#[97, 110, 110]⟩, .string ⟨#[98, 111]⟩, .string ⟨#[99, 121]⟩, .string ⟨#[100, 101, 101]⟩, .string ⟨#[101, 118, 101]⟩] 9)).drew.trans h2) s2 hsa2 (fun x hx => by have := hbl2 x hx; simp at this; omega) Hown.out hS hg3 hat3 hrd.out (fun r hr => (hsz.out r hr).2)
          | exact readers_step (W := w2.alloc (.cells #[.string ⟨#[97, 110, 110]⟩, .string ⟨#[98, 111]⟩, .string ⟨#[99, 121]⟩, .string ⟨#[100, 101, 101]⟩, .string ⟨#[101, 118, 101]⟩] 9)) hst (((Stp.refl S wr).drew.trans h2).alloc (.cells #[.string ⟨#[97, 110, 110]⟩, .string ⟨#[98, 111]⟩, .string ⟨#[99, 121]⟩, .string ⟨#[100, 101, 101]⟩, .string ⟨#[101, 118, 101]⟩] 9)) (s2.alloc (.cells #[.string ⟨#[97, 110, 110]⟩, .string ⟨#[98, 111]⟩, .string ⟨#[99, 121]⟩, .string ⟨#[100, 101, 101]⟩, .string ⟨#[101, 118, 101]⟩] 9)) (hsa2.alloc (.cells #[.string ⟨#[97, 110, 110]⟩, .string ⟨#[98, 111]⟩, .string ⟨#[99, 121]⟩, .string ⟨#[100, 101, 101]⟩, .string ⟨#[101, 118, 101]⟩] 9)) (fun x hx => by have := hbl2 x hx; simp at this; simp; omega) Hown.out hS hg3 hat3 hrd.out (fun r hr => (hsz.out r hr).2)
        have Hno : Hid (NoR S (⟨nm, sk, sa, sc⟩ : Reader)) := fun x hx => by
          have := hbl2 x hx
          simp at this
          omega
        have HRh := Lib.hid HR.2.2
        obtain ⟨hst3, s3, _⟩ := HR
        clear hg3 hat3 h2 s2 hoA hown2 hsa2 hbl2
        go_wp2_with fail
        go_roundg (m - (k + 1))
        case measure => have := hgk.out; omega
        case rel => exact ⟨k + 1, acc ++ [(⟨nm, sk, sa, sc⟩ : Reader)], by go_num, by omega, rfl, by simp; omega, all_snoc hsz.out ⟨⟨hnm, hsk5⟩, Hno.out⟩, hown3, HRh.out, hst3, s3.mono (by omega)⟩
    · obtain rfl : k = m := by omega
      have hz2 := hst.size
      go_wp2_with fail
      refine (flip_any S (B + 1 + 30 * k) 15 wr hs (by omega) (by omega) (by omega)).mono ?_
      rintro e w1 ⟨r, rfl, h1, s1⟩
      have hst1 := hst.trans h1
      have hown1 := hown.stp h1 (by omega)
      have hz1 := h1.size
      have hrd1 : Hid (∀ r ∈ acc, SA w1 r.a r.skills ∧ ApR u5 r ∧ LtR w1 r) := fun p hp => ⟨(hrd.out p hp).1.stp h1 (hsz.out p hp).2, (hrd.out p hp).2.1, fun x hx => by have := (hrd.out p hp).2.2 x hx; omega⟩
      clear h1 hst hown hrd hs
      cases r
      · go_wp2_with fail
        go_ret
        exact ⟨_, acc, rfl, by omega, hsz.out, hown1, fun p hp => (hrd1.out p hp).1, hst1, s1.mono (by omega)⟩
      · obtain ⟨a2, cap2, rfl, hsa2, hform2, hcp2⟩ := hown1.form
        by_cases hl0 : acc.length = 0
        · have hfin : SomeReaders S (B + 200) most w (.returned (.slice a2 acc.length cap2)) w1 := ⟨_, acc, rfl, by omega, hsz.out, hown1, fun p hp => (hrd1.out p hp).1, hst1, s1.mono (by omega)⟩
          rw [hl0] at hfin ⊢
          go_wp2_with fail
          go_ret
          exact hfin
        · obtain ⟨g, rfl, hg1, hg2⟩ : ∃ b, a2 = some ⟨b, 0, none⟩ ∧ w.heap.size ≤ b ∧ b < w1.heap.size := by
            rcases hform2 with hf | hf
            · obtain ⟨b, off, h, _⟩ := hsa2.at (i := 0) (by omega)
              rw [hf] at h; cases h
            · exact hf
          have hlp : 0 < acc.length := by omega
          obtain ⟨n, hn⟩ : ∃ n, acc.length = n := ⟨_, rfl⟩
          rw [hn] at hlp hal hown1 ⊢
          have Hn := Lib.hid hn
          clear hn hl0 hform2 hsa2
          go_wp2_with fail
          refine (next_any S (B + 1 + 30 * k + 1) n w1 s1 (by omega) (by omega) (by omega)).mono ?_
          rintro e w2 ⟨r, ⟨hr3, hr4⟩, rfl, h2, s2⟩
          obtain ⟨i, rfl⟩ := Int.eq_ofNat_of_zero_le hr3
          have hi : i < n := by omega
          have hil : i < acc.length := by rw [Hn.out]; exact hi
          have hst2 := hst1.trans h2
          have hown2 := hown1.stp h2 (by omega)
          have hz3 := h2.size
          have hrd2 : Hid (∀ r ∈ acc, SA w2 r.a r.skills ∧ ApR (.slice (some ⟨g, 0, none⟩) acc.length cap2) r ∧ LtR w2 r) := fun p hp => ⟨(hrd1.out p hp).1.stp h2 (hsz.out p hp).2, (hrd1.out p hp).2.1, fun x hx => by have := (hrd1.out p hp).2.2 x hx; omega⟩
          clear h2 hst1 hown1 hrd1 s1
          go_wp2_with fail
          refine (one_any S (B + 1 + 30 * k + 1 + 1) _ 3 3 9 _ _ (s2.alloc _) (by omega) (Box.new _ _ _) (by omega) rfl (by omega) (by omega) (by simp; decide)).mono ?_
          rintro e w3 ⟨x, hx, rfl, h3, s3⟩
          have hz5 := h3.size
          simp at hz5
          have hown3 := (hown2.alloc (.cells #[.string ⟨#[]⟩, .string ⟨#[97, 110, 110]⟩, .string ⟨#[90]⟩] 9)).stp h3 (by omega)
          have hst3 := (hst2.alloc (.cells #[.string ⟨#[]⟩, .string ⟨#[97, 110, 110]⟩, .string ⟨#[90]⟩] 9)).trans h3
          have hrd3 : Hid (∀ r ∈ acc, SA w3 r.a r.skills ∧ ∀ x : Addr, r.a = some x → x.block ≠ g) := fun p hp => ⟨((hrd2.out p hp).1.alloc _).stp h3 (hsz.out p hp).2, (hrd2.out p hp).2.1 g rfl⟩
          clear hst2 hown2 h3 s2 hrd2
          obtain ⟨a', cap', he, hsa3, _, _⟩ := hown3.form
          simp only [Value.slice.injEq] at he
          obtain ⟨rfl, -, -⟩ := he
          obtain ⟨g', off', ha', c0, c1⟩ := hsa3.reader hil
          cases ha'
          rw [Nat.zero_add] at c0 c1
          obtain ⟨cur, hbx⟩ := hown3.box
          have f0 := hbx.frozen (i * 2)
          have hsx := (hsz.out acc[i] (List.getElem_mem hil))
          have hry := (hrd3.out acc[i] (List.getElem_mem hil))
          generalize hxe : acc[i] = y at *
          obtain ⟨y1, ysk, ya, yc⟩ := y
          have p1 := hown3.put i 0 (⟨x, ysk, ya, yc⟩ : Reader) (.string x) hil (by decide) (by rw [hxe]; rfl)
          clear hxe
          have hkp : Kp (fun b => b = g) w3 _ := (Kp.refl (fun b => b = g) w3).setCell (p := ⟨g, i * Cel.k Reader + 0, none⟩) (.inl rfl) (.string x)
          have hmem : ∀ p ∈ acc.set i (⟨x, ysk, ya, yc⟩ : Reader), p ∈ acc ∨ p = ⟨x, ysk, ya, yc⟩ := fun p hp => List.mem_or_eq_of_mem_set hp
          have hrdW : ∀ p ∈ acc.set i (⟨x, ysk, ya, yc⟩ : Reader), SA _ p.a p.skills := fun p hp => by
            rcases hmem p hp with hp | rfl
            · exact (hrd3.out p hp).1.kp hkp (fun x hx _ => (hrd3.out p hp).2 x hx)
            · exact hry.1.kp hkp (fun x hx _ => hry.2 x hx)
          have hszW : ∀ p ∈ acc.set i (⟨x, ysk, ya, yc⟩ : Reader), RSz p ∧ NoR S p := fun p hp => by
            rcases hmem p hp with hp | rfl
            · exact hsz.out p hp
            · exact ⟨⟨hx, hsx.1.2⟩, hsx.2⟩
          have hstW := hst3.setCell (p := ⟨g, i * Cel.k Reader + 0, none⟩) (.inr hg1) (.string x)
          have Hfin : Hid (SomeReaders S (B + 200) most w (.returned (.slice (some ⟨g, 0, none⟩) n cap2)) _) := ⟨_, _, rfl, by rw [List.length_set, Hn.out]; omega, hszW, p1, hrdW, hstW, (s3.kp hkp (fun b hb => by omega)).mono (by omega)⟩
          clear p1 hkp hmem hrdW hszW hstW hbx hsa3 hry hsx
          go_wp2_with fail
          go_ret
          exact Hfin.out
end Go.Proofs.YtpgofjjcmldhpaaGreatDoor
