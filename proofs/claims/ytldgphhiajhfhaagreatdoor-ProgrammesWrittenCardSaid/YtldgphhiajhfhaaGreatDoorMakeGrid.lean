/- The maker RightGrid. -/
import Derived.Test.YtldgphhiajhfhaaGreatDoorGridW
import Derived.Test.YtldgphhiajhfhaaGreatDoorRegP
import Derived.Test.YtldgphhiajhfhaaGreatDoorMakeList
namespace Go.Proofs.YtldgphhiajhfhaaGreatDoor
open Go.RowKit
set_option linter.unusedVariables false
set_option linter.unusedSimpArgs false

def RomOk (x : Rom) : Prop := x.1.size ≤ 1000 ∧ -100000 ≤ x.2 ∧ x.2 ≤ 100000
def SltOk (x : Slt) : Prop := x.1.size ≤ 1000 ∧ -100000000 ≤ x.2.1 ∧ x.2.1 ≤ 100000000 ∧ -100000 ≤ x.2.2 ∧ x.2.2 ≤ 100000
def TlkOk (t : Tlk) : Prop := t.paper.size ≤ 1000 ∧ t.speakers.length ≤ 1000 ∧ t.topics.length ≤ 1000 ∧ (∀ x ∈ t.speakers, x.size ≤ 1000) ∧ (∀ x ∈ t.topics, x.size ≤ 1000) ∧ -100000 ≤ t.long ∧ t.long ≤ 100000
def WshOk (x : Wsh) : Prop := x.person.size ≤ 1000 ∧ x.papers.length ≤ 1000 ∧ (∀ y ∈ x.papers, y.size ≤ 1000) ∧ x.papers.length ≤ x.c1
def BanOk (x : Ban2) : Prop := x.1.size ≤ 1000 ∧ x.2.size ≤ 1000
theorem infoRom : (Tryz.prog.info? 54).map (fun i => (i.zero, i.size, i.bytes)) = some (some (.agg #[.string ⟨#[]⟩, .int .i64 0]), 2, 24) := by kernel_rfl
theorem infoSlt : (Tryz.prog.info? 56).map (fun i => (i.zero, i.size, i.bytes)) = some (some (.agg #[.string ⟨#[]⟩, .int .i64 0, .int .i64 0]), 3, 32) := by kernel_rfl
theorem infoTlk : (Tryz.prog.info? 60).map (fun i => (i.zero, i.size, i.bytes)) = some (some (.agg #[.string ⟨#[]⟩, .slice none 0 0, .slice none 0 0, .int .i64 0]), 4, 72) := by kernel_rfl
theorem infoWsh : (Tryz.prog.info? 62).map (fun i => (i.zero, i.size, i.bytes)) = some (some (.agg #[.string ⟨#[]⟩, .slice none 0 0]), 2, 40) := by kernel_rfl
theorem infoBan : (Tryz.prog.info? 64).map (fun i => (i.zero, i.size, i.bytes)) = some (some (.agg #[.string ⟨#[]⟩, .string ⟨#[]⟩]), 2, 32) := by kernel_rfl
theorem atNew {v : Value} {g n cap m : Nat} (h : v.ownBlock = some g ∨ g = m) : ∀ j, (Value.slice (some ⟨g, 0, none⟩) n cap).ownBlock = some j → v.ownBlock = some j ∨ m ≤ j := fun j hj => by
 obtain rfl : g = j := Option.some.inj hj
 exact h.imp id (fun e => Nat.le_of_eq e.symm)
theorem SA.tlk {w : World} {a : Option Addr} {l : List Tlk} (h : SA w a l) {i : Nat} (hi : i < l.length) :
  ∃ b off, a = some ⟨b, off, none⟩ ∧ w.cell? ⟨b, off + i * 4, none⟩ = some (.string l[i].paper) ∧ w.cell? ⟨b, off + i * 4 + 1, none⟩ = some (.slice l[i].a1 l[i].speakers.length l[i].c1) ∧ w.cell? ⟨b, off + i * 4 + 2, none⟩ = some (.slice l[i].a2 l[i].topics.length l[i].c2) ∧ w.cell? ⟨b, off + i * 4 + 3, none⟩ = some (.int .i64 l[i].long) := by
 obtain ⟨b, off, ha, hc⟩ := h.at hi
 exact ⟨b, off, ha, hc 0 (by decide), hc 1 (by decide), hc 2 (by decide), hc 3 (by decide)⟩
theorem SA.slt {w : World} {a : Option Addr} {l : List Slt} (h : SA w a l) {i : Nat} (hi : i < l.length) :
  ∃ b off, a = some ⟨b, off, none⟩ ∧ w.cell? ⟨b, off + i * 3, none⟩ = some (.string l[i].1) := by
 obtain ⟨b, off, ha, hc⟩ := h.at hi
 exact ⟨b, off, ha, hc 0 (by decide)⟩
/-- What each operation of the talks' region leaves. -/
def FTlk (S n0 : Nat) (m : Nat) (v : Value) (w : World) : Prop :=
 (m = 8 → ∃ p, v = .slice (some ⟨p, 0, none⟩) 4 4 ∧ Box w p 9 #[.string ⟨#[97, 110, 110]⟩, .string ⟨#[98, 111]⟩, .string ⟨#[99, 121]⟩, .string ⟨#[100, 101, 101]⟩] ∧ p ≠ S) ∧
 (m = 9 → ∃ x : ByteArray, v = .string x ∧ x.size ≤ 1000) ∧
 (m = 10 → ∃ p, ∃ x : ByteArray, v = .slice (some ⟨p, 0, none⟩) 1 1 ∧ x.size ≤ 1000 ∧ Box w p 9 #[.string x] ∧ p ≠ S ∧ n0 ≤ p) ∧
 (m = 12 → ∃ p, v = .slice (some ⟨p, 0, none⟩) 3 3 ∧ Box w p 9 #[.string ⟨#[97, 114, 116]⟩, .string ⟨#[98, 114, 101, 97, 100]⟩, .string ⟨#[99, 97, 107, 101]⟩] ∧ p ≠ S) ∧
 (m = 13 → ∃ (a : Option Addr) (l : List ByteArray) (cap : Nat), v = .slice a l.length cap ∧ SA w a l ∧ l.length ≤ 3 ∧ (∀ x ∈ l, x.size ≤ 1000) ∧ ∀ y : Addr, a = some y → n0 ≤ y.block ∧ y.block < w.heap.size ∧ y.block ≠ S) ∧
 (m = 15 → ∃ p, v = .slice (some ⟨p, 0, none⟩) 4 4 ∧ Box w p 3 #[.int .i64 10, .int .i64 20, .int .i64 20, .int .i64 40] ∧ p ≠ S) ∧
 (m = 16 → ∃ z : Int, v = .int .i64 z ∧ 10 ≤ z ∧ z ≤ 40)
theorem FTlk.stab {S n0 : Nat} {j : Nat} {v : Value} {w w' : World} (hx : Stp S w w') (h : FTlk S n0 j v w) : FTlk S n0 j v w' := by
 obtain ⟨h1, h2, h3, h4, h5, h6, h7⟩ := h
 refine ⟨fun e => ?_, h2, fun e => ?_, fun e => ?_, fun e => ?_, fun e => ?_, h7⟩
 ·
  obtain ⟨p, a, b, c⟩ := h1 e; exact ⟨p, a, b.stp hx c, c⟩
 ·
  obtain ⟨p, x, a, b, c, d, f⟩ := h3 e; exact ⟨p, x, a, b, c.stp hx d, d, f⟩
 ·
  obtain ⟨p, a, b, c⟩ := h4 e; exact ⟨p, a, b.stp hx c, c⟩
 ·
  obtain ⟨a, l, cap, h1, h2, h3, h4, h5⟩ := h5 e; exact ⟨a, l, cap, h1, h2.stp hx (fun y hy => (h5 y hy).2.2), h3, h4, fun y hy => ⟨(h5 y hy).1, Nat.lt_of_lt_of_le (h5 y hy).2.1 hx.size, (h5 y hy).2.2⟩⟩
 ·
  obtain ⟨p, a, b, c⟩ := h6 e; exact ⟨p, a, b.stp hx c, c⟩
def costT (m : Nat) : Int := if m = 9 then 1 else if m = 13 then 3 else if m = 16 then 1 else 0
set_option maxRecDepth 100000 in
set_option maxHeartbeats 16000000 in
theorem rightGrid_any (S : Nat) (B : Int) (nt nr ns : Nat) (w : World) (hs : Strm S B w) (hB : B ≤ 999900000) (h1 : nt ≤ 20) (h2 : nr ≤ 20) (h3 : ns ≤ 20) :
  Calls Tryz.prog 19 #[.pointer (some ⟨S, 0, none⟩), .int .i64 (nt : Nat), .int .i64 (nr : Nat), .int .i64 (ns : Nat)] w (fun e w' => ∃ gb vr vs vt vw vb lr ls lt lw lb, e = .returned (.agg #[vr, vs, vt, vw, vb]) ∧ GW w.heap.size gb vr vs vt vw vb lr ls lt lw lb w' ∧
   (lr.length ≤ 20 ∧ ls.length ≤ 20 ∧ lt.length ≤ nt ∧ lw.length ≤ 20 ∧ lb.length ≤ 20) ∧ (∀ x ∈ lr, RomOk x) ∧ (∀ x ∈ ls, SltOk x) ∧ (∀ x ∈ lt, TlkOk x) ∧ (∀ x ∈ lw, WshOk x) ∧ (∀ x ∈ lb, BanOk x) ∧ Stp S w w' ∧ Strm S (B + 2000) w') := by
 have hSl := hs.lt
 have hR0 := (Box.new w 32 #[.slice none 0 0, .slice none 0 0, .slice none 0 0, .slice none 0 0, .slice none 0 0]).alloc (.cells #[.slice none 0 0, .slice none 0 0, .slice none 0 0, .slice none 0 0, .slice none 0 0] 32)
 have hG0 : GW (w.heap.size + 2) (w.heap.size + 1) (.slice none 0 0) (.slice none 0 0) (.slice none 0 0) (.slice none 0 0) (.slice none 0 0) [] [] [] [] [] ((w.alloc (.cells #[.slice none 0 0, .slice none 0 0, .slice none 0 0, .slice none 0 0, .slice none 0 0] 32)).alloc (.cells #[.slice none 0 0, .slice none 0 0, .slice none 0 0, .slice none 0 0, .slice none 0 0] 32)) := by
  have hn : Apt (.slice none 0 0) (.slice none 0 0) := fun j hj => by cases hj
  refine ⟨Box.newAt _ _ _ _ (by simp), Own.nil _ _ _, Own.nil _ _ _, Own.nil _ _ _, Own.nil _ _ _, Own.nil _ _ _, ?_, ?_, hn, hn, hn, hn, hn, hn, hn, hn, hn, hn, ?_, ?_, ?_, ?_, ?_, ?_, ?_, ?_, ?_, ?_, ?_, ?_⟩
  all_goals first | (intro x hx; cases hx; done) | (intro e; cases e)
 have hst0 : Stp S w ((w.alloc (.cells #[.slice none 0 0, .slice none 0 0, .slice none 0 0, .slice none 0 0, .slice none 0 0] 32)).alloc (.cells #[.slice none 0 0, .slice none 0 0, .slice none 0 0, .slice none 0 0, .slice none 0 0] 32)) := ((Stp.refl S w).alloc _).alloc _
 have hs0 := (hs.alloc (.cells #[.slice none 0 0, .slice none 0 0, .slice none 0 0, .slice none 0 0, .slice none 0 0] 32)).alloc (.cells #[.slice none 0 0, .slice none 0 0, .slice none 0 0, .slice none 0 0, .slice none 0 0] 32)
 have hz0 := hst0.size
 clear hs
 go_enter Tryz.func19, Tryz.ntmps19
 go_upto_region 2 with (fail)
 generalize (w.alloc (.cells #[.slice none 0 0, .slice none 0 0, .slice none 0 0, .slice none 0 0, .slice none 0 0] 32)).alloc (.cells #[.slice none 0 0, .slice none 0 0, .slice none 0 0, .slice none 0 0, .slice none 0 0] 32) = W0 at *
 go_wp2_with fail
 go_loopg [22] nr (fun gk i wr => ∃ (k : Nat) (vr : Value) (lr : List Rom), i = .int .i64 k ∧ k ≤ nr ∧ Hid (gk = nr - k) ∧ lr.length ≤ k ∧ Hid (∀ x ∈ lr, RomOk x) ∧ GW (w.heap.size + 2) (w.heap.size + 1) vr (.slice none 0 0) (.slice none 0 0) (.slice none 0 0) (.slice none 0 0) lr [] [] [] [] wr ∧ Box wr w.heap.size 32 #[.slice none 0 0, .slice none 0 0, .slice none 0 0, .slice none 0 0, .slice none 0 0] ∧ Stp S w wr ∧ Strm S (B + k) wr)
 case atStart => exact ⟨0, _, [], rfl, by omega, rfl, by simp, fun x hx => (by cases hx), hG0, hR0, hst0, by simpa using hs0⟩
 case round =>
  clear hG0 hR0 hst0 hs0 hz0
  obtain ⟨k, vr, lr, rfl, hk, hgk, hlr, hro, hg, hR, hst, hsm⟩ := hrel
  have hz := hst.size
  by_cases hlt : k < nr
  ·
   obtain ⟨x, hx, hcx⟩ : ∃ x : ByteArray, x.size ≤ 4 ∧ ∀ W, (convert 21 9 (.int .i32 (97 + (k : Int)))).run Tryz.prog W = .ok (.string x) W := ⟨_, encode_size_le _, fun W => run_convert_int_string W _ _ _ _ (by kernel_rfl) Tryz.underlying9⟩
   have hw32 : IntKind.i32.wrap (97 + (k : Int)) = 97 + (k : Int) := IntWalk.i32_in _ (by omega)
   have hw64 : IntKind.i64.wrap (97 + (k : Int)) = 97 + (k : Int) := IntWalk.i64_in _ (by omega)
   have hc0 := hg.box.cell 0
   simp at hc0
   have hkey : ((⟨#[114]⟩ : ByteArray) ++ x).size ≤ 1000 := by rw [ByteArray.size_append]; show 1 + _ ≤ _; omega
   have hcat : ¬ 9223372036854775807 < 1 + x.size := by omega
   have hSr := hsm.lt
   have hgl := hg.box.lt
   have hg2 := (hg.below (Below.refl _ _).drew).alloc (.cells #[.int .i64 1, .int .i64 2, .int .i64 100] 3)
   have hs1 := (Strm.drewN hsm 1).alloc (.cells #[.int .i64 1, .int .i64 2, .int .i64 100] 3)
   have hst1 : Stp S w (wr.drew.alloc (.cells #[.int .i64 1, .int .i64 2, .int .i64 100] 3)) := (hst.drewN 1).alloc _
   have hR1 := (hR.drew).alloc (.cells #[.int .i64 1, .int .i64 2, .int .i64 100] 3)
   clear hg hst hsm hR
   go_upto_region 5 with (fail)
   refine wp_regionF (S := (fun wx => wx.cell? ⟨w.heap.size + 1, 0, none⟩ = some vr)) 14 (by kernel_rfl) ?hS (fun hHeld => ?_)
   case hS => exact hc0
   refine rtakeF (i := 0) (d := (some 25)) (v := ?_) (n := 40) rfl (by kernel_rfl) (by kernel_rfl) (by kernel_rfl) (by kernel_rfl) (by kernel_rfl) (by kernel_rfl) (fun _ _ _ h => h) (by kernel_rfl) (by assumption) ?_ ?_
   rotate_left 1
   ·
    (intro wI hSI; (try dsimp only at hSI); go_simp; (try with_reducible rfl))
   simp only [Act.put, lsetA, lsetZ, lsetS]
   refine rtakeF (i := 1) (d := (some 26)) (v := ?_) (n := 40) rfl (by kernel_rfl) (by kernel_rfl) (by kernel_rfl) (by kernel_rfl) (by kernel_rfl) (by kernel_rfl) (fun _ _ _ h => h) (by kernel_rfl) (by assumption) ?_ ?_
   rotate_left 1
   ·
    (intro wI hSI; (try dsimp only at hSI); go_simp; (try with_reducible rfl))
   simp only [Act.put, lsetA, lsetZ, lsetS]
   refine rtakeF (i := 2) (d := (some 27)) (v := ?_) (n := 40) rfl (by kernel_rfl) (by kernel_rfl) (by kernel_rfl) (by kernel_rfl) (by kernel_rfl) (by kernel_rfl) (fun _ _ _ h => h) (by kernel_rfl) (by assumption) ?_ ?_
   rotate_left 1
   ·
    (intro wI hSI; (try dsimp only at hSI); go_simp; (try with_reducible rfl))
   simp only [Act.put, lsetA, lsetZ, lsetS]
   refine rtakeF (i := 3) (d := (some 28)) (v := ?_) (n := 40) rfl (by kernel_rfl) (by kernel_rfl) (by kernel_rfl) (by kernel_rfl) (by kernel_rfl) (by kernel_rfl) (fun _ _ _ h => h) (by kernel_rfl) (by assumption) ?_ ?_
   rotate_left 1
   ·
    (intro wI hSI; (try dsimp only at hSI); go_simp; (try with_reducible rfl))
   simp only [Act.put, lsetA, lsetZ, lsetS]
   refine rtakeF (i := 4) (d := (some 29)) (v := ?_) (n := 40) rfl (by kernel_rfl) (by kernel_rfl) (by kernel_rfl) (by kernel_rfl) (by kernel_rfl) (by kernel_rfl) (fun _ _ _ h => h) (by kernel_rfl) (by assumption) ?_ ?_
   rotate_left 1
   ·
    (intro wI hSI; (try dsimp only at hSI); go_simp; (try with_reducible rfl))
   simp only [Act.put, lsetA, lsetZ, lsetS]
   refine rtakeF (i := 5) (d := (some 30)) (v := ?_) (n := 40) rfl (by kernel_rfl) (by kernel_rfl) (by kernel_rfl) (by kernel_rfl) (by kernel_rfl) (by kernel_rfl) (fun _ _ _ h => h) (by kernel_rfl) (by assumption) ?_ ?_
   rotate_left 1
   ·
    (intro wI hSI; (try dsimp only at hSI); go_simp; (try with_reducible rfl))
   simp only [Act.put, lsetA, lsetZ, lsetS]
   refine rtakeF (i := 6) (d := (some 31)) (v := ?_) (n := 40) rfl (by kernel_rfl) (by kernel_rfl) (by kernel_rfl) (by kernel_rfl) (by kernel_rfl) (by kernel_rfl) (fun _ _ _ h => h) (by kernel_rfl) (by assumption) ?_ ?_
   rotate_left 1
   ·
    (intro wI hSI; (try dsimp only at hSI); go_simp; (try with_reducible rfl))
   simp only [Act.put, lsetA, lsetZ, lsetS]
   refine rtakeF (i := 7) (d := (some 32)) (v := ?_) (n := 40) rfl (by kernel_rfl) (by kernel_rfl) (by kernel_rfl) (by kernel_rfl) (by kernel_rfl) (by kernel_rfl) (fun _ _ _ h => h) (by kernel_rfl) (by assumption) ?_ ?_
   rotate_left 1
   ·
    (intro wI hSI; (try dsimp only at hSI); go_simp; (try with_reducible rfl))
   simp only [Act.put, lsetA, lsetZ, lsetS]
   refine rcallF (i := 8) (d := (some 33)) (by kernel_rfl) rfl (by kernel_rfl) (fun K hK => ?_)
   go_simp
   refine hK.out _ _ (.inr ?hS) (fun hHeld0 => ?_)
   case hS => exact hg2.box.cell 0
   clear hK K
   have hHeld := hHeld0.resolve_left (by decide)
   simp only [Act.put, lsetA, lsetZ, lsetS]
   generalize (⟨#[114]⟩ : ByteArray) ++ x = key at *
   refine rcallF (i := 9) (d := (some 34)) (by kernel_rfl) rfl (by kernel_rfl) (fun K hK => ?_)
   go_simp
   go_at_call 16; refine (pick_box S (B + k) _ 3 3 [1, 2, 100] _ hs1 (by omega) (Box.new _ _ _) (by simp; omega) (by decide) (by decide)).mono ?_; rintro e w1 ⟨z, hz, rfl, h4, s4⟩; have hg3 := hg2.stp h4 (by omega) (by omega)
   refine hK.out _ _ (.inr ?hS) (fun hHeld0 => ?_)
   case hS => exact (by have := hg3.box.cell 0; simpa using this)
   clear hK K
   have hHeld := hHeld0.resolve_left (by decide)
   simp only [Act.put, lsetA, lsetZ, lsetS]
   refine rtakeF (i := 10) (d := (some 35)) (v := ?_) (n := 40) rfl (by kernel_rfl) (by kernel_rfl) (by kernel_rfl) (by kernel_rfl) (by kernel_rfl) (by kernel_rfl) (fun _ _ _ h => h) (by kernel_rfl) (by assumption) ?_ ?_
   rotate_left 1
   ·
    (intro wI hSI; (try dsimp only at hSI); go_simp; (try with_reducible rfl))
   simp only [Act.put, lsetA, lsetZ, lsetS]
   have hg4 := hg3.alloc (.cells #[.string key, .int .i64 z] 54)
   have hzb : -100000 ≤ z ∧ z ≤ 100000 := by simp at hz; omega
   have hz1 := h4.size
   simp at hz1
   have hst2 := (hst1.trans h4).alloc (.cells #[.string key, .int .i64 z] 54)
   have hR2 := (hR1.stp h4 (by omega)).alloc (.cells #[.string key, .int .i64 z] 54)
   have s5 := s4.alloc (.cells #[.string key, .int .i64 z] 54)
   clear hg2 hs1 hst1 hR1 hg3 h4 s4 hz hcx hw32 hw64
   refine rcallF (i := 11) (d := (some 36)) (by kernel_rfl) rfl (by kernel_rfl) (fun K hK => ?_)
   go_simp
   refine hK.out _ _ (.inr ?hS) (fun hHeld0 => ?_)
   case hS => exact (by have := hg4.box.cell 0; simpa using this)
   clear hK K
   have hHeld := hHeld0.resolve_left (by decide)
   simp only [Act.put, lsetA, lsetZ, lsetS]
   refine rcallF (i := 12) (d := (some 37)) (by kernel_rfl) rfl (by kernel_rfl) (fun K hK => ?_)
   refine step_append_lie (α := Rom) (by rfl) _ _ 26 (by rfl) 54 24 (.agg #[.string ⟨#[]⟩, .int .i64 0]) Tryz.underlying26 infoRom (by rfl) vr lr (by rfl) hg4.fr (key, z) _ (by rfl) (Box.new _ _ _) (by omega) (by omega) (by simp; omega) ?_; intro g9 cap9 w9 hown9 hg9 hat9; have hb9 := hg4.box.kp ((Kp.refl (fun j => vr.ownBlock = some j) _).grown hg9 (fun j hj => .inl hj)) hg4.xr; have hc9 := hb9.cell 0; have hf9 := hb9.frozen 0; simp at hc9
   refine hK.out _ _ (.inr ?hS) (fun hHeld0 => ?_)
   case hS => exact hc9
   clear hK K
   have hHeld := hHeld0.resolve_left (by decide)
   simp only [Act.put, lsetA, lsetZ, lsetS]
   refine rtakeF (i := 13) (d := (some 38)) (v := ?_) (n := 40) rfl (by kernel_rfl) (by kernel_rfl) (by kernel_rfl) (by kernel_rfl) (by kernel_rfl) (by kernel_rfl) (fun _ _ _ h => h) (by kernel_rfl) (by assumption) ?_ ?_
   rotate_left 1
   ·
    (intro wI hSI; (try dsimp only at hSI); go_simp; (try with_reducible rfl))
   simp only [Act.put, lsetA, lsetZ, lsetS]
   refine rcallF (i := 14) (d := none) (by kernel_rfl) rfl (by kernel_rfl) (fun K hK => ?_)
   go_simp
   refine hK.out undef _ (.inl rfl) (fun _ => ?_)
   clear hK K
   simp only [Act.put, lsetA, lsetZ, lsetS]
   refine wpAnyF_done (by kernel_rfl) ?_ _
   have hl9 := hg4.fr.lt
   have hg10 := hg4.putr hg9 hown9 (atNew hat9)
   have hst3 : Stp S w (w9.setCell ⟨w.heap.size + 1, 0, none⟩ (.slice (some ⟨g9, 0, none⟩) (lr.length + 1) cap9)) := (hst2.grown hg9 (fun b hb => .inr (by have := (hl9 b hb).1; omega))).setCell (.inr (by show _ ≤ w.heap.size + 1; omega)) _
   have hR3 := ((hR2.grown hg9 (fun e => by have := (hl9 _ e.symm).1; omega)).setOther (p := ⟨w.heap.size + 1, 0, none⟩) (by show w.heap.size + 1 ≠ w.heap.size; omega) (.slice (some ⟨g9, 0, none⟩) (lr.length + 1) cap9))
   have s6 := ((s5.grown hg9 (fun b hb => by have := (hl9 b hb).1; omega)).setOther (p := ⟨w.heap.size + 1, 0, none⟩) (by show S < w.heap.size + 1; omega) (.slice (some ⟨g9, 0, none⟩) (lr.length + 1) cap9))
   clear hHeld hg4 hst2 hR2 s5 hg9 hown9 hat9 hb9 hc9 hf9 hl9
   generalize w9.setCell ⟨w.heap.size + 1, 0, none⟩ (.slice (some ⟨g9, 0, none⟩) (lr.length + 1) cap9) = W9 at *
   go_wp2_with fail
   go_roundg (nr - (k + 1))
   case measure => have := hgk.out; omega
   case rel => exact ⟨k + 1, _, lr ++ [(key, z)], by go_num, by omega, rfl, by rw [List.length_append]; simp; omega, all_snoc hro.out ⟨hkey, hzb.1, hzb.2⟩, hg10, hR3, hst3, s6.mono (by omega)⟩
  ·
   obtain rfl : k = nr := by omega
   have hSr := hsm.lt
   have Hro := hro
   clear hgk hlt hk
   go_wp2_with fail
   refine (pick_box S (B + k) _ 3 2 [0, 60] _ (hsm.alloc _) (by omega) (Box.new _ _ _) (by omega) (by decide) (by decide)).mono ?_
   rintro e w1 ⟨at0, hat0, rfl, h4, s4⟩
   have hab : 0 ≤ at0 ∧ at0 ≤ 60 := by simp at hat0; omega
   have hg1 := (hg.alloc (.cells #[.int .i64 0, .int .i64 60] 3)).stp h4 (by omega) (by omega)
   have hR1 := (hR.alloc (.cells #[.int .i64 0, .int .i64 60] 3)).stp h4 (by omega)
   have hst1 := (hst.alloc (.cells #[.int .i64 0, .int .i64 60] 3)).trans h4
   clear hg hR hst hsm h4 hat0 hz hro
   go_wp2_with fail
   go_loopg [44, 11] ns (fun gk i av wr => ∃ (m : Nat) (at_ : Int) (vs : Value) (ls : List Slt), i = .int .i64 m ∧ av = .int .i64 at_ ∧ m ≤ ns ∧ Hid (gk = ns - m) ∧ 0 ≤ at_ ∧ at_ ≤ 60 + 60 * m ∧ ls.length ≤ m ∧ Hid (∀ x ∈ ls, SltOk x) ∧ GW (w.heap.size + 2) (w.heap.size + 1) vr vs (.slice none 0 0) (.slice none 0 0) (.slice none 0 0) lr ls [] [] [] wr ∧ Box wr w.heap.size 32 #[.slice none 0 0, .slice none 0 0, .slice none 0 0, .slice none 0 0, .slice none 0 0] ∧ Stp S w wr ∧ Strm S (B + k + 1 + 2 * m) wr)
   case atStart => exact ⟨0, at0, _, [], rfl, rfl, by omega, rfl, by omega, by omega, by simp, fun x hx => (by cases hx), hg1, hR1, hst1, s4.mono (by omega)⟩
   case round =>
    clear hg1 hR1 hst1 s4 hab
    obtain ⟨m, at_, vs, ls, rfl, rfl, hm, hgm, ha1, ha2, hls, hso, hg, hR, hst, hsm⟩ := hrel
    have hz := hst.size
    have hSr := hsm.lt
    by_cases hlt : m < ns
    ·
     obtain ⟨x, hx, hcx⟩ : ∃ x : ByteArray, x.size ≤ 4 ∧ ∀ W, (convert 21 9 (.int .i32 (97 + (m : Int)))).run Tryz.prog W = .ok (.string x) W := ⟨_, encode_size_le _, fun W => run_convert_int_string W _ _ _ _ (by kernel_rfl) Tryz.underlying9⟩
     have hw32 : IntKind.i32.wrap (97 + (m : Int)) = 97 + (m : Int) := IntWalk.i32_in _ (by omega)
     have hw64 : IntKind.i64.wrap (97 + (m : Int)) = 97 + (m : Int) := IntWalk.i64_in _ (by omega)
     have hc0 := hg.box.cell 1
     simp at hc0
     have hkey : ((⟨#[115]⟩ : ByteArray) ++ x).size ≤ 1000 := by rw [ByteArray.size_append]; show 1 + _ ≤ _; omega
     have hcat : ¬ 9223372036854775807 < 1 + x.size := by omega
     have hgl := hg.box.lt
     have hg2 := (hg.below (Below.refl _ _).drew).alloc (.cells #[.int .i64 20, .int .i64 40, .int .i64 60] 3)
     have hs1 := (Strm.drewN hsm 1).alloc (.cells #[.int .i64 20, .int .i64 40, .int .i64 60] 3)
     have hst1 : Stp S w (wr.drew.alloc (.cells #[.int .i64 20, .int .i64 40, .int .i64 60] 3)) := (hst.drewN 1).alloc _
     have hR1 := (hR.drew).alloc (.cells #[.int .i64 20, .int .i64 40, .int .i64 60] 3)
     clear hg hst hsm hR
     go_upto_region 11 with (fail)
     refine wp_regionF (S := (fun wx => wx.cell? ⟨w.heap.size + 1, 1, none⟩ = some vs)) 15 (by kernel_rfl) ?hS (fun hHeld => ?_)
     case hS => exact hc0
     refine rtakeF (i := 0) (d := (some 47)) (v := ?_) (n := 40) rfl (by kernel_rfl) (by kernel_rfl) (by kernel_rfl) (by kernel_rfl) (by kernel_rfl) (by kernel_rfl) (fun _ _ _ h => h) (by kernel_rfl) (by assumption) ?_ ?_
     rotate_left 1
     ·
      (intro wI hSI; (try dsimp only at hSI); go_simp; (try with_reducible rfl))
     simp only [Act.put, lsetA, lsetZ, lsetS]
     refine rtakeF (i := 1) (d := (some 48)) (v := ?_) (n := 40) rfl (by kernel_rfl) (by kernel_rfl) (by kernel_rfl) (by kernel_rfl) (by kernel_rfl) (by kernel_rfl) (fun _ _ _ h => h) (by kernel_rfl) (by assumption) ?_ ?_
     rotate_left 1
     ·
      (intro wI hSI; (try dsimp only at hSI); go_simp; (try with_reducible rfl))
     simp only [Act.put, lsetA, lsetZ, lsetS]
     refine rtakeF (i := 2) (d := (some 49)) (v := ?_) (n := 40) rfl (by kernel_rfl) (by kernel_rfl) (by kernel_rfl) (by kernel_rfl) (by kernel_rfl) (by kernel_rfl) (fun _ _ _ h => h) (by kernel_rfl) (by assumption) ?_ ?_
     rotate_left 1
     ·
      (intro wI hSI; (try dsimp only at hSI); go_simp; (try with_reducible rfl))
     simp only [Act.put, lsetA, lsetZ, lsetS]
     refine rtakeF (i := 3) (d := (some 50)) (v := ?_) (n := 40) rfl (by kernel_rfl) (by kernel_rfl) (by kernel_rfl) (by kernel_rfl) (by kernel_rfl) (by kernel_rfl) (fun _ _ _ h => h) (by kernel_rfl) (by assumption) ?_ ?_
     rotate_left 1
     ·
      (intro wI hSI; (try dsimp only at hSI); go_simp; (try with_reducible rfl))
     simp only [Act.put, lsetA, lsetZ, lsetS]
     refine rtakeF (i := 4) (d := (some 51)) (v := ?_) (n := 40) rfl (by kernel_rfl) (by kernel_rfl) (by kernel_rfl) (by kernel_rfl) (by kernel_rfl) (by kernel_rfl) (fun _ _ _ h => h) (by kernel_rfl) (by assumption) ?_ ?_
     rotate_left 1
     ·
      (intro wI hSI; (try dsimp only at hSI); go_simp; (try with_reducible rfl))
     simp only [Act.put, lsetA, lsetZ, lsetS]
     refine rtakeF (i := 5) (d := (some 52)) (v := ?_) (n := 40) rfl (by kernel_rfl) (by kernel_rfl) (by kernel_rfl) (by kernel_rfl) (by kernel_rfl) (by kernel_rfl) (fun _ _ _ h => h) (by kernel_rfl) (by assumption) ?_ ?_
     rotate_left 1
     ·
      (intro wI hSI; (try dsimp only at hSI); go_simp; (try with_reducible rfl))
     simp only [Act.put, lsetA, lsetZ, lsetS]
     refine rtakeF (i := 6) (d := (some 53)) (v := ?_) (n := 40) rfl (by kernel_rfl) (by kernel_rfl) (by kernel_rfl) (by kernel_rfl) (by kernel_rfl) (by kernel_rfl) (fun _ _ _ h => h) (by kernel_rfl) (by assumption) ?_ ?_
     rotate_left 1
     ·
      (intro wI hSI; (try dsimp only at hSI); go_simp; (try with_reducible rfl))
     simp only [Act.put, lsetA, lsetZ, lsetS]
     refine rtakeF (i := 7) (d := (some 54)) (v := ?_) (n := 40) rfl (by kernel_rfl) (by kernel_rfl) (by kernel_rfl) (by kernel_rfl) (by kernel_rfl) (by kernel_rfl) (fun _ _ _ h => h) (by kernel_rfl) (by assumption) ?_ ?_
     rotate_left 1
     ·
      (intro wI hSI; (try dsimp only at hSI); go_simp; (try with_reducible rfl))
     simp only [Act.put, lsetA, lsetZ, lsetS]
     refine rtakeF (i := 8) (d := (some 55)) (v := ?_) (n := 40) rfl (by kernel_rfl) (by kernel_rfl) (by kernel_rfl) (by kernel_rfl) (by kernel_rfl) (by kernel_rfl) (fun _ _ _ h => h) (by kernel_rfl) (by assumption) ?_ ?_
     rotate_left 1
     ·
      (intro wI hSI; (try dsimp only at hSI); go_simp; (try with_reducible rfl))
     simp only [Act.put, lsetA, lsetZ, lsetS]
     refine rcallF (i := 9) (d := (some 56)) (by kernel_rfl) rfl (by kernel_rfl) (fun K hK => ?_)
     go_simp
     refine hK.out _ _ (.inr ?hS) (fun hHeld0 => ?_)
     case hS => exact hg2.box.cell 1
     clear hK K
     have hHeld := hHeld0.resolve_left (by decide)
     simp only [Act.put, lsetA, lsetZ, lsetS]
     generalize (⟨#[115]⟩ : ByteArray) ++ x = key at *
     refine rcallF (i := 10) (d := (some 57)) (by kernel_rfl) rfl (by kernel_rfl) (fun K hK => ?_)
     go_simp
     go_at_call 16; refine (pick_box S (B + k + 1 + 2 * m) _ 3 3 [20, 40, 60] _ hs1 (by omega) (Box.new _ _ _) (by simp; omega) (by decide) (by decide)).mono ?_; rintro e w1 ⟨z, hz, rfl, h4, s4⟩; have hg3 := hg2.stp h4 (by omega) (by omega)
     refine hK.out _ _ (.inr ?hS) (fun hHeld0 => ?_)
     case hS => exact hg3.box.cell 1
     clear hK K
     have hHeld := hHeld0.resolve_left (by decide)
     simp only [Act.put, lsetA, lsetZ, lsetS]
     refine rtakeF (i := 11) (d := (some 58)) (v := ?_) (n := 40) rfl (by kernel_rfl) (by kernel_rfl) (by kernel_rfl) (by kernel_rfl) (by kernel_rfl) (by kernel_rfl) (fun _ _ _ h => h) (by kernel_rfl) (by assumption) ?_ ?_
     rotate_left 1
     ·
      (intro wI hSI; (try dsimp only at hSI); go_simp; (try with_reducible rfl))
     simp only [Act.put, lsetA, lsetZ, lsetS]
     have hg4 := hg3.alloc (.cells #[.string key, .int .i64 at_, .int .i64 z] 56)
     have hzb : 20 ≤ z ∧ z ≤ 60 := by simp at hz; omega
     have hz1 := h4.size
     simp at hz1
     have hst2 := (hst1.trans h4).alloc (.cells #[.string key, .int .i64 at_, .int .i64 z] 56)
     have hR2 := (hR1.stp h4 (by omega)).alloc (.cells #[.string key, .int .i64 at_, .int .i64 z] 56)
     have s5 := s4.alloc (.cells #[.string key, .int .i64 at_, .int .i64 z] 56)
     clear hg2 hs1 hst1 hR1 hg3 h4 s4 hz hcx hw32 hw64
     refine rcallF (i := 12) (d := (some 59)) (by kernel_rfl) rfl (by kernel_rfl) (fun K hK => ?_)
     go_simp
     refine hK.out _ _ (.inr ?hS) (fun hHeld0 => ?_)
     case hS => exact hg4.box.cell 1
     clear hK K
     have hHeld := hHeld0.resolve_left (by decide)
     simp only [Act.put, lsetA, lsetZ, lsetS]
     refine rcallF (i := 13) (d := (some 60)) (by kernel_rfl) rfl (by kernel_rfl) (fun K hK => ?_)
     refine step_append_lie (α := Slt) (by rfl) _ _ 27 (by rfl) 56 32 (.agg #[.string ⟨#[]⟩, .int .i64 0, .int .i64 0]) Tryz.underlying27 infoSlt (by rfl) vs ls (by rfl) hg4.fs (key, at_, z) _ (by rfl) (Box.new _ _ _) (by omega) (by omega) (by simp; omega) ?_; intro g9 cap9 w9 hown9 hg9 hat9; have hb9 := hg4.box.kp ((Kp.refl (fun j => vs.ownBlock = some j) _).grown hg9 (fun j hj => .inl hj)) hg4.xs; have hc9 := hb9.cell 1; have hf9 := hb9.frozen 1; simp at hc9
     refine hK.out _ _ (.inr ?hS) (fun hHeld0 => ?_)
     case hS => exact hc9
     clear hK K
     have hHeld := hHeld0.resolve_left (by decide)
     simp only [Act.put, lsetA, lsetZ, lsetS]
     refine rtakeF (i := 14) (d := (some 61)) (v := ?_) (n := 40) rfl (by kernel_rfl) (by kernel_rfl) (by kernel_rfl) (by kernel_rfl) (by kernel_rfl) (by kernel_rfl) (fun _ _ _ h => h) (by kernel_rfl) (by assumption) ?_ ?_
     rotate_left 1
     ·
      (intro wI hSI; (try dsimp only at hSI); go_simp; (try with_reducible rfl))
     simp only [Act.put, lsetA, lsetZ, lsetS]
     refine rcallF (i := 15) (d := none) (by kernel_rfl) rfl (by kernel_rfl) (fun K hK => ?_)
     go_simp
     refine hK.out undef _ (.inl rfl) (fun _ => ?_)
     clear hK K
     simp only [Act.put, lsetA, lsetZ, lsetS]
     refine wpAnyF_done (by kernel_rfl) ?_ _
     have hl9 := hg4.fs.lt
     have hg10 := hg4.puts hg9 hown9 (atNew hat9)
     have hst3 : Stp S w (w9.setCell ⟨w.heap.size + 1, 1, none⟩ (.slice (some ⟨g9, 0, none⟩) (ls.length + 1) cap9)) := (hst2.grown hg9 (fun b hb => .inr (by have := (hl9 b hb).1; omega))).setCell (.inr (by show _ ≤ w.heap.size + 1; omega)) _
     have hR3 := ((hR2.grown hg9 (fun e => by have := (hl9 _ e.symm).1; omega)).setOther (p := ⟨w.heap.size + 1, 1, none⟩) (by show w.heap.size + 1 ≠ w.heap.size; omega) (.slice (some ⟨g9, 0, none⟩) (ls.length + 1) cap9))
     have s6 := ((s5.grown hg9 (fun b hb => by have := (hl9 b hb).1; omega)).setOther (p := ⟨w.heap.size + 1, 1, none⟩) (by show S < w.heap.size + 1; omega) (.slice (some ⟨g9, 0, none⟩) (ls.length + 1) cap9))
     clear hHeld hg4 hst2 hR2 s5 hg9 hown9 hat9 hb9 hc9 hf9 hl9
     have hz9 : w.heap.size + 1 < (w9.setCell ⟨w.heap.size + 1, 1, none⟩ (.slice (some ⟨g9, 0, none⟩) (ls.length + 1) cap9)).heap.size := hg10.box.lt
     generalize w9.setCell ⟨w.heap.size + 1, 1, none⟩ (.slice (some ⟨g9, 0, none⟩) (ls.length + 1) cap9) = W9 at *
     go_wp2_with fail
     refine (pick_box S (B + k + 1 + 2 * m + 1) _ 3 3 [20, 40, 60] _ (s6.alloc _) (by omega) (Box.new _ _ _) (by omega) (by decide) (by decide)).mono ?_
     rintro e w2 ⟨z2, hz2, rfl, h5, s7⟩
     have hzc : 20 ≤ z2 ∧ z2 ≤ 60 := by simp at hz2; omega
     have hg11 := (hg10.alloc (.cells #[.int .i64 20, .int .i64 40, .int .i64 60] 3)).stp h5 (by omega) (by omega)
     have hR4 := (hR3.alloc (.cells #[.int .i64 20, .int .i64 40, .int .i64 60] 3)).stp h5 (by omega)
     have hst4 := (hst3.alloc (.cells #[.int .i64 20, .int .i64 40, .int .i64 60] 3)).trans h5
     have hwa : IntKind.i64.wrap (at_ + z2) = at_ + z2 := IntWalk.i64_in _ (by omega)
     clear hg10 hR3 hst3 s6 h5 hz2
     go_wp2_with fail
     go_roundg (ns - (m + 1))
     case measure => have := hgm.out; omega
     case rel => exact ⟨m + 1, at_ + z2, _, ls ++ [(key, at_, z)], by go_num, rfl, by omega, rfl, by omega, by omega, by rw [List.length_append]; simp; omega, all_snoc hso.out ⟨hkey, by show _ ≤ at_; omega, by show at_ ≤ _; omega, by show _ ≤ z; omega, by show z ≤ _; omega⟩, hg11, hR4, hst4, s7.mono (by omega)⟩
    ·
     obtain rfl : m = ns := by omega
     have Hso := hso
     clear hgm hlt hm hso ha1 ha2
     go_wp2_with fail
     go_loopg [69] nt (fun gk i wr => ∃ (n : Nat) (vt : Value) (lt : List Tlk), i = .int .i64 n ∧ n ≤ nt ∧ Hid (gk = nt - n) ∧ lt.length ≤ n ∧ Hid (∀ x ∈ lt, TlkOk x) ∧ GW (w.heap.size + 2) (w.heap.size + 1) vr vs vt (.slice none 0 0) (.slice none 0 0) lr ls lt [] [] wr ∧ Box wr w.heap.size 32 #[.slice none 0 0, .slice none 0 0, .slice none 0 0, .slice none 0 0, .slice none 0 0] ∧ Stp S w wr ∧ Strm S (B + k + 1 + 2 * m + 5 * n) wr)
     case atStart => exact ⟨0, _, [], rfl, by omega, rfl, by simp, fun x hx => (by cases hx), hg, hR, hst, hsm.mono (by omega)⟩
     case round =>
      clear hg hR hst hsm hz hSr
      obtain ⟨n, vt, lt, rfl, hn, hgn, hlt2, hto, hg, hR, hst, hsm⟩ := hrel
      have hz := hst.size
      have hSr := hsm.lt
      by_cases hlt : n < nt
      ·
       obtain ⟨x, hx, hcx⟩ : ∃ x : ByteArray, x.size ≤ 4 ∧ ∀ W, (convert 21 9 (.int .i32 (97 + (n : Int)))).run Tryz.prog W = .ok (.string x) W := ⟨_, encode_size_le _, fun W => run_convert_int_string W _ _ _ _ (by kernel_rfl) Tryz.underlying9⟩
       have hw32 : IntKind.i32.wrap (97 + (n : Int)) = 97 + (n : Int) := IntWalk.i32_in _ (by omega)
       have hw64 : IntKind.i64.wrap (97 + (n : Int)) = 97 + (n : Int) := IntWalk.i64_in _ (by omega)
       have hc0 := hg.box.cell 2
       simp at hc0
       have hkey : ((⟨#[112]⟩ : ByteArray) ++ x).size ≤ 1000 := by rw [ByteArray.size_append]; show 1 + _ ≤ _; omega
       have hcat : ¬ 9223372036854775807 < 1 + x.size := by omega
       have hgl := hg.box.lt
       have hg2 := hg.below (Below.refl _ _).drew
       have hs1 := Strm.drewN hsm 1
       have hst1 : Stp S w wr.drew := hst.drewN 1
       have hR1 := hR.drew
       have Hg2 := Lib.hid hg2
       have Hs1 := Lib.hid hs1
       clear hg hst hsm hR hg2 hs1
       go_upto_region 17 with (fail)
       refine wp_regionF (S := (fun wx => wx.cell? ⟨w.heap.size + 1, 2, none⟩ = some vt)) 21 (by kernel_rfl) ?hS (fun hHeld => ?_)
       case hS => exact hc0
       refine rtakeF (i := 0) (d := (some 72)) (v := ?_) (n := 40) rfl (by kernel_rfl) (by kernel_rfl) (by kernel_rfl) (by kernel_rfl) (by kernel_rfl) (by kernel_rfl) (fun _ _ _ h => h) (by kernel_rfl) (by assumption) ?_ ?_
       rotate_left 1
       ·
        (intro wI hSI; (try dsimp only at hSI); go_simp; (try with_reducible rfl))
       simp only [Act.put, lsetA, lsetZ, lsetS]
       refine rtakeF (i := 1) (d := (some 73)) (v := ?_) (n := 40) rfl (by kernel_rfl) (by kernel_rfl) (by kernel_rfl) (by kernel_rfl) (by kernel_rfl) (by kernel_rfl) (fun _ _ _ h => h) (by kernel_rfl) (by assumption) ?_ ?_
       rotate_left 1
       ·
        (intro wI hSI; (try dsimp only at hSI); go_simp; (try with_reducible rfl))
       simp only [Act.put, lsetA, lsetZ, lsetS]
       refine rtakeF (i := 2) (d := (some 74)) (v := ?_) (n := 40) rfl (by kernel_rfl) (by kernel_rfl) (by kernel_rfl) (by kernel_rfl) (by kernel_rfl) (by kernel_rfl) (fun _ _ _ h => h) (by kernel_rfl) (by assumption) ?_ ?_
       rotate_left 1
       ·
        (intro wI hSI; (try dsimp only at hSI); go_simp; (try with_reducible rfl))
       simp only [Act.put, lsetA, lsetZ, lsetS]
       refine rtakeF (i := 3) (d := (some 75)) (v := ?_) (n := 40) rfl (by kernel_rfl) (by kernel_rfl) (by kernel_rfl) (by kernel_rfl) (by kernel_rfl) (by kernel_rfl) (fun _ _ _ h => h) (by kernel_rfl) (by assumption) ?_ ?_
       rotate_left 1
       ·
        (intro wI hSI; (try dsimp only at hSI); go_simp; (try with_reducible rfl))
       simp only [Act.put, lsetA, lsetZ, lsetS]
       refine rtakeF (i := 4) (d := (some 76)) (v := ?_) (n := 40) rfl (by kernel_rfl) (by kernel_rfl) (by kernel_rfl) (by kernel_rfl) (by kernel_rfl) (by kernel_rfl) (fun _ _ _ h => h) (by kernel_rfl) (by assumption) ?_ ?_
       rotate_left 1
       ·
        (intro wI hSI; (try dsimp only at hSI); go_simp; (try with_reducible rfl))
       simp only [Act.put, lsetA, lsetZ, lsetS]
       refine rtakeF (i := 5) (d := (some 77)) (v := ?_) (n := 40) rfl (by kernel_rfl) (by kernel_rfl) (by kernel_rfl) (by kernel_rfl) (by kernel_rfl) (by kernel_rfl) (fun _ _ _ h => h) (by kernel_rfl) (by assumption) ?_ ?_
       rotate_left 1
       ·
        (intro wI hSI; (try dsimp only at hSI); go_simp; (try with_reducible rfl))
       simp only [Act.put, lsetA, lsetZ, lsetS]
       refine rtakeF (i := 6) (d := (some 78)) (v := ?_) (n := 40) rfl (by kernel_rfl) (by kernel_rfl) (by kernel_rfl) (by kernel_rfl) (by kernel_rfl) (by kernel_rfl) (fun _ _ _ h => h) (by kernel_rfl) (by assumption) ?_ ?_
       rotate_left 1
       ·
        (intro wI hSI; (try dsimp only at hSI); go_simp; (try with_reducible rfl))
       simp only [Act.put, lsetA, lsetZ, lsetS]
       refine rtakeF (i := 7) (d := (some 79)) (v := ?_) (n := 40) rfl (by kernel_rfl) (by kernel_rfl) (by kernel_rfl) (by kernel_rfl) (by kernel_rfl) (by kernel_rfl) (fun _ _ _ h => h) (by kernel_rfl) (by assumption) ?_ ?_
       rotate_left 1
       ·
        (intro wI hSI; (try dsimp only at hSI); go_simp; (try with_reducible rfl))
       simp only [Act.put, lsetA, lsetZ, lsetS]
       refine rtakeF (i := 11) (d := (some 83)) (v := ?_) (n := 40) rfl (by kernel_rfl) (by kernel_rfl) (by kernel_rfl) (by kernel_rfl) (by kernel_rfl) (by kernel_rfl) (fun _ _ _ h => h) (by kernel_rfl) (by assumption) ?_ ?_
       rotate_left 1
       ·
        (intro wI hSI; (try dsimp only at hSI); go_simp; (try with_reducible rfl))
       simp only [Act.put, lsetA, lsetZ, lsetS]
       refine rtakeF (i := 14) (d := (some 86)) (v := ?_) (n := 40) rfl (by kernel_rfl) (by kernel_rfl) (by kernel_rfl) (by kernel_rfl) (by kernel_rfl) (by kernel_rfl) (fun _ _ _ h => h) (by kernel_rfl) (by assumption) ?_ ?_
       rotate_left 1
       ·
        (intro wI hSI; (try dsimp only at hSI); go_simp; (try with_reducible rfl))
       simp only [Act.put, lsetA, lsetZ, lsetS]
       generalize (⟨#[112]⟩ : ByteArray) ++ x = key at *
       clear hcx hw32 hw64 hcat hx
       show wpAnyF _ _ _ _ _ _ (5 + [8, 9, 10, 12, 13, 15, 16].length) _ _ _
       refine wpAnyF_phaseB [8, 9, 10, 12, 13, 15, 16] (fun m => m + 72) costT (FTlk S wr.heap.size) (fun t wx => Strm S (B + k + 1 + 2 * m + 5 * n + t) wx ∧ Stp S wr.drew wx) (Stp S) _ _ 40 5 _ (by decide) (by intro i _ j _ h; omega) (fun i hi => by have h : i ≤ 16 := (by simp at hi; omega); show i + 72 < 159; omega) (by kernel_rfl) (by kernel_rfl) (by kernel_rfl) (by kernel_rfl) (fun j v w w' hx h => h.stab hx) (fun m => by unfold costT; repeat' split <;> omega) ?hop ?hend (by kernel_rfl) ⟨Hs1.out.mono (by omega), Stp.refl _ _⟩ hHeld
       case hop =>
        intro i hi o ho a wx t K' htc hSw hG hfr hp hK
        have hSx := hG.1.lt
        have htc2 : t + costT i ≤ 5 := htc
        have hcc : ∀ wy, Stp S wx wy → wy.cell? ⟨w.heap.size + 1, 2, none⟩ = some vt := fun wy h => cellKp (Kp.of_stp (X := fun j => j = S) h rfl) (fun e => by omega) hSw
        have Hcc := Lib.hid hcc
        have Hfr := Lib.hid hfr
        have Hp := Lib.hid hp
        have hnz : wr.heap.size ≤ wx.heap.size := hG.2.size
        clear hfr hp hcc htc
        simp only [List.mem_cons, List.not_mem_nil, or_false] at hi
        rcases hi with rfl | rfl | rfl | rfl | rfl | rfl | rfl
        all_goals obtain rfl := Option.some.inj ho
        all_goals clear ho
        ·
         go_simp
         exact hK.out _ _ ((Stp.refl S wx).alloc _) (Hcc.out _ ((Stp.refl S wx).alloc _)) (by
          refine ⟨fun e => ?_, fun e => ?_, fun e => ?_, fun e => ?_, fun e => ?_, fun e => ?_, fun e => ?_⟩
          all_goals first | (exact absurd e (by decide)) | exact ⟨wx.heap.size, rfl, Box.new _ _ _, by omega⟩) ⟨(hG.1.alloc _).mono (by have e : costT 8 = 0 := rfl; omega), hG.2.alloc _⟩
        ·
         obtain ⟨p, hv, hbx, hpS⟩ := (Hp.out 8 (by decide) (by kernel_rfl)).1 rfl
         have e79 : a.tmps.getD 79 undef = .pointer (some ⟨S, 0, none⟩) := (Hfr.out 79 (by decide)).trans rfl
         have e80 : a.tmps.getD 80 undef = .slice (some ⟨p, 0, none⟩) 4 4 := hv
         have e79' := e79
         have e80' := e80
         simp only [Array.getD_eq_getD_getElem?] at e79' e80'
         go_simp
         go_at_call 22
         refine (one_any S (B + k + 1 + 2 * m + 5 * n + t) p 4 4 9 _ _ hG.1 (by have e : costT 9 = 1 := rfl; omega) hbx hpS rfl (by omega) (by omega) (by simp; decide)).mono ?_
         rintro e w2 ⟨x, hx, rfl, h4, s4⟩
         exact hK.out _ _ h4 (Hcc.out _ h4) (by
          refine ⟨fun e => ?_, fun e => ?_, fun e => ?_, fun e => ?_, fun e => ?_, fun e => ?_, fun e => ?_⟩
          all_goals first | (exact absurd e (by decide)) | exact ⟨x, rfl, hx⟩) ⟨s4.mono (by have e : costT 9 = 1 := rfl; omega), hG.2.trans h4⟩
        ·
         obtain ⟨x, hv, hx⟩ := (Hp.out 9 (by decide) (by kernel_rfl)).2.1 rfl
         have e81 : a.tmps.getD 81 undef = .string x := hv
         have e81' := e81
         simp only [Array.getD_eq_getD_getElem?] at e81'
         go_simp
         exact hK.out _ _ ((Stp.refl S wx).alloc _) (Hcc.out _ ((Stp.refl S wx).alloc _)) (by
          refine ⟨fun e => ?_, fun e => ?_, fun e => ?_, fun e => ?_, fun e => ?_, fun e => ?_, fun e => ?_⟩
          all_goals first | (exact absurd e (by decide)) | exact ⟨wx.heap.size, x, rfl, hx, Box.new _ _ _, by omega, hnz⟩) ⟨(hG.1.alloc _).mono (by have e : costT 10 = 0 := rfl; omega), hG.2.alloc _⟩
        ·
         go_simp
         exact hK.out _ _ ((Stp.refl S wx).alloc _) (Hcc.out _ ((Stp.refl S wx).alloc _)) (by
          refine ⟨fun e => ?_, fun e => ?_, fun e => ?_, fun e => ?_, fun e => ?_, fun e => ?_, fun e => ?_⟩
          all_goals first | (exact absurd e (by decide)) | exact ⟨wx.heap.size, rfl, Box.new _ _ _, by omega⟩) ⟨(hG.1.alloc _).mono (by have e : costT 12 = 0 := rfl; omega), hG.2.alloc _⟩
        ·
         obtain ⟨p, hv, hbx, hpS⟩ := (Hp.out 12 (by decide) (by kernel_rfl)).2.2.2.1 rfl
         have e83 : a.tmps.getD 83 undef = .pointer (some ⟨S, 0, none⟩) := (Hfr.out 83 (by decide)).trans rfl
         have e84 : a.tmps.getD 84 undef = .slice (some ⟨p, 0, none⟩) 3 3 := hv
         have e83' := e83
         have e84' := e84
         simp only [Array.getD_eq_getD_getElem?] at e83' e84'
         have hsa := Box.sa hbx ([⟨#[97, 114, 116]⟩, ⟨#[98, 114, 101, 97, 100]⟩, ⟨#[99, 97, 107, 101]⟩] : List ByteArray) rfl
         go_simp
         go_at_call 61
         refine (some_any S (B + k + 1 + 2 * m + 5 * n + t) 3 ([⟨#[97, 114, 116]⟩, ⟨#[98, 114, 101, 97, 100]⟩, ⟨#[99, 97, 107, 101]⟩] : List ByteArray) (some ⟨p, 0, none⟩) 3 wx hG.1 (by have e : costT 13 = 3 := rfl; omega) (by omega) (by omega) hsa (fun y hy => by cases hy; exact hpS) (by decide) (by intro y hy; simp at hy; rcases hy with rfl | rfl | rfl <;> (unfold SmallS; decide))).mono ?_
         rintro e w2 ⟨v4, l, rfl, hl, hls, hown, h4, s4⟩
         obtain ⟨a4, cap4, rfl, hsa4, hbl4, -⟩ := hown.sa
         exact hK.out _ _ h4 (Hcc.out _ h4) (by
          refine ⟨fun e => ?_, fun e => ?_, fun e => ?_, fun e => ?_, fun e => ?_, fun e => ?_, fun e => ?_⟩
          all_goals first | (exact absurd e (by decide)) | exact ⟨a4, l, cap4, rfl, hsa4, hl, hls, fun y hy => ⟨by have := (hbl4 y hy).1; omega, (hbl4 y hy).2, by have := (hbl4 y hy).1; omega⟩⟩) ⟨s4.mono (by have e : costT 13 = 3 := rfl; simp; omega), hG.2.trans h4⟩
        ·
         go_simp
         exact hK.out _ _ ((Stp.refl S wx).alloc _) (Hcc.out _ ((Stp.refl S wx).alloc _)) (by
          refine ⟨fun e => ?_, fun e => ?_, fun e => ?_, fun e => ?_, fun e => ?_, fun e => ?_, fun e => ?_⟩
          all_goals first | (exact absurd e (by decide)) | exact ⟨wx.heap.size, rfl, Box.new _ _ _, by omega⟩) ⟨(hG.1.alloc _).mono (by have e : costT 15 = 0 := rfl; omega), hG.2.alloc _⟩
        ·
         obtain ⟨p, hv, hbx, hpS⟩ := (Hp.out 15 (by decide) (by kernel_rfl)).2.2.2.2.2.1 rfl
         have e86 : a.tmps.getD 86 undef = .pointer (some ⟨S, 0, none⟩) := (Hfr.out 86 (by decide)).trans rfl
         have e87 : a.tmps.getD 87 undef = .slice (some ⟨p, 0, none⟩) 4 4 := hv
         have e86' := e86
         have e87' := e87
         simp only [Array.getD_eq_getD_getElem?] at e86' e87'
         go_simp
         go_at_call 16
         refine (pick_box S (B + k + 1 + 2 * m + 5 * n + t) p 3 4 [10, 20, 20, 40] wx hG.1 (by have e : costT 16 = 1 := rfl; omega) hbx hpS (by decide) (by decide)).mono ?_
         rintro e w2 ⟨z, hz, rfl, h4, s4⟩
         have hzb : 10 ≤ z ∧ z ≤ 40 := by simp at hz; omega
         exact hK.out _ _ h4 (Hcc.out _ h4) (by
          refine ⟨fun e => ?_, fun e => ?_, fun e => ?_, fun e => ?_, fun e => ?_, fun e => ?_, fun e => ?_⟩
          all_goals first | (exact absurd e (by decide)) | exact ⟨z, rfl, hzb.1, hzb.2⟩) ⟨s4.mono (by have e : costT 16 = 1 := rfl; omega), hG.2.trans h4⟩
       case hend =>
        intro v wx hv hG hSw
        obtain ⟨p8, e8, -⟩ := (hv 8 (by decide)).1 rfl
        obtain ⟨x9, e9, -⟩ := (hv 9 (by decide)).2.1 rfl
        obtain ⟨p10, x10, e10, hx10, hb10, hpS, hp10⟩ := (hv 10 (by decide)).2.2.1 rfl
        obtain ⟨p12, e12, -⟩ := (hv 12 (by decide)).2.2.2.1 rfl
        obtain ⟨a13, l13, c13, e13, hs13, hl13, hm13, hn13⟩ := (hv 13 (by decide)).2.2.2.2.1 rfl
        obtain ⟨p15, e15, -⟩ := (hv 15 (by decide)).2.2.2.2.2.1 rfl
        obtain ⟨z, e16, hz1, hz2⟩ := (hv 16 (by decide)).2.2.2.2.2.2 rfl
        simp only [List.foldl, Act.put, List.setIfInBounds_toArray, Nat.reduceAdd, List.set_cons_zero, List.set_cons_succ, e8, e9, e10, e12, e13, e15, e16]
        clear e8 e9 e10 e12 e13 e15 e16 hv
        have hG1 := hG.1.mono (B' := B + k + 1 + 2 * m + 5 * n + 5) (by have e : (([8, 9, 10, 12, 13, 15, 16] : List Nat).map costT).foldl (· + ·) 0 = 5 := rfl; omega)
        have hg3 := Hg2.out.stp hG.2 (by omega) (by omega)
        have hR2 := hR1.stp hG.2 (by omega)
        have hst2 := hst1.trans hG.2
        have hzx : wr.heap.size ≤ wx.heap.size := hG.2.size
        have hp10l := hb10.lt
        obtain ⟨tv, htv⟩ : ∃ tv : Tlk, tv = ⟨key, [x10], l13, z, some ⟨p10, 0, none⟩, 1, a13, c13⟩ := ⟨_, rfl⟩
        have Hads : Hid (∀ y ∈ Nst.ads tv, wr.heap.size ≤ y.block ∧ y.block < wx.heap.size) := fun y hy => by
         rw [htv] at hy
         rcases List.mem_append.1 hy with hy | hy
         ·
          have e : y = ⟨p10, 0, none⟩ := by simpa using hy
          rw [e]; exact ⟨hp10, hp10l⟩
         ·
          have e : a13 = some y := by simpa using hy
          exact ⟨(hn13 y e).1, (hn13 y e).2.1⟩
        have Hrd : Hid (Nst.rd wx tv) := by
         show _ ∧ _
         rw [htv]
         exact ⟨Box.sa hb10 [x10] rfl, hs13⟩
        have Htk : Hid (TlkOk tv) := by
         rw [htv]
         exact ⟨hkey, by show (1 : Nat) ≤ _; omega, by show l13.length ≤ _; omega, by intro y hy; have e : y = x10 := (by simpa using hy); rw [e]; exact hx10, hm13, by show _ ≤ z; omega, by show z ≤ _; omega⟩
        have Hown : Hid (∀ j, (vr.ownBlock = some j ∨ vs.ownBlock = some j ∨ vt.ownBlock = some j) → j < wr.heap.size) := fun j hj => by
         rcases hj with hj | hj | hj
         ·
          exact (Hg2.out.fr.lt j hj).2
         ·
          exact (Hg2.out.fs.lt j hj).2
         ·
          exact (Hg2.out.ft.lt j hj).2
        have Hce : Hid (Cel.cells tv = [.string key, .slice (some ⟨p10, 0, none⟩) 1 1, .slice a13 l13.length c13, .int .i64 z]) := by show _ = _; rw [htv]; rfl
        clear htv hG hb10 hs13 hm13 hn13 hx10 hHeld Hg2 Hs1 hR1 hst1 hpS hp10
        have hHeld := hSw
        refine rtakeF (i := 17) (d := (some 89)) (v := ?_) (n := 40) rfl (by kernel_rfl) (by kernel_rfl) (by kernel_rfl) (by kernel_rfl) (by kernel_rfl) (by kernel_rfl) (fun _ _ _ h => h) (by kernel_rfl) (by assumption) ?_ ?_
        rotate_left 1
        ·
         (intro wI hSI; (try dsimp only at hSI); go_simp; (try with_reducible rfl))
        simp only [Act.put, lsetA, lsetZ, lsetS]
        have hg4 := hg3.alloc (.cells #[.string key, .slice (some ⟨p10, 0, none⟩) 1 1, .slice a13 l13.length c13, .int .i64 z] 60)
        have hst3 := hst2.alloc (.cells #[.string key, .slice (some ⟨p10, 0, none⟩) 1 1, .slice a13 l13.length c13, .int .i64 z] 60)
        have hR3 := hR2.alloc (.cells #[.string key, .slice (some ⟨p10, 0, none⟩) 1 1, .slice a13 l13.length c13, .int .i64 z] 60)
        have s5 := hG1.alloc (.cells #[.string key, .slice (some ⟨p10, 0, none⟩) 1 1, .slice a13 l13.length c13, .int .i64 z] 60)
        clear hg3 hst2 hR2 hG1 hSw
        refine rcallF (i := 18) (d := (some 90)) (by kernel_rfl) rfl (by kernel_rfl) (fun K hK => ?_)
        go_simp
        refine hK.out _ _ (.inr ?hS) (fun hHeld0 => ?_)
        case hS => exact hg4.box.cell 2
        clear hK K
        have hHeld := hHeld0.resolve_left (by decide)
        simp only [Act.put, lsetA, lsetZ, lsetS]
        refine rcallF (i := 19) (d := (some 91)) (by kernel_rfl) rfl (by kernel_rfl) (fun K hK => ?_)
        refine step_append_lie (α := Tlk) (by rfl) _ _ 28 (by rfl) 60 72 (.agg #[.string ⟨#[]⟩, .slice none 0 0, .slice none 0 0, .int .i64 0]) Tryz.underlying28 infoTlk (by rfl) vt lt (by rfl) hg4.ft tv _ (by rfl) (by rw [Hce.out]; exact Box.new _ _ _) (by omega) (by omega) (by simp; omega) ?_; intro g9 cap9 w9 hown9 hg9 hat9; have hb9 := hg4.box.kp ((Kp.refl (fun j => vt.ownBlock = some j) _).grown hg9 (fun j hj => .inl hj)) hg4.xt; have hc9 := hb9.cell 2; have hf9 := hb9.frozen 2; simp at hc9
        refine hK.out _ _ (.inr ?hS) (fun hHeld0 => ?_)
        case hS => exact hc9
        clear hK K
        have hHeld := hHeld0.resolve_left (by decide)
        simp only [Act.put, lsetA, lsetZ, lsetS]
        refine rtakeF (i := 20) (d := (some 92)) (v := ?_) (n := 40) rfl (by kernel_rfl) (by kernel_rfl) (by kernel_rfl) (by kernel_rfl) (by kernel_rfl) (by kernel_rfl) (fun _ _ _ h => h) (by kernel_rfl) (by assumption) ?_ ?_
        rotate_left 1
        ·
         (intro wI hSI; (try dsimp only at hSI); go_simp; (try with_reducible rfl))
        simp only [Act.put, lsetA, lsetZ, lsetS]
        refine rcallF (i := 21) (d := none) (by kernel_rfl) rfl (by kernel_rfl) (fun K hK => ?_)
        go_simp
        refine hK.out undef _ (.inl rfl) (fun _ => ?_)
        clear hK K
        simp only [Act.put, lsetA, lsetZ, lsetS]
        refine wpAnyF_done (by kernel_rfl) ?_ _
        have hl9 := hg4.ft.lt
        have hg10 := hg4.putt hg9 hown9 (atNew hat9) (fun q hq => by
         rcases List.mem_append.1 hq with hq | hq
         ·
          exact .inl hq
         ·
          rw [List.mem_singleton] at hq
          subst hq
          refine .inr ⟨Nst.same Hrd.out (fun y hy => Below.heap_alloc _ _ _ (Hads.out y hy).2), fun y hy => ?_⟩
          have h6 := Hads.out y hy
          exact ⟨by omega, by simp; omega, fun e => by have := Hown.out _ (.inl e); omega, fun e => by have := Hown.out _ (.inr (.inl e)); omega, fun e => by have := Hown.out _ (.inr (.inr e)); omega, (fun e => by cases e), (fun e => by cases e), by omega⟩)
        have hst4 : Stp S w (w9.setCell ⟨w.heap.size + 1, 2, none⟩ (.slice (some ⟨g9, 0, none⟩) (lt.length + 1) cap9)) := (hst3.grown hg9 (fun b hb => .inr (by have := (hl9 b hb).1; omega))).setCell (.inr (by show _ ≤ w.heap.size + 1; omega)) _
        have hR4 := ((hR3.grown hg9 (fun e => by have := (hl9 _ e.symm).1; omega)).setOther (p := ⟨w.heap.size + 1, 2, none⟩) (by show w.heap.size + 1 ≠ w.heap.size; omega) (.slice (some ⟨g9, 0, none⟩) (lt.length + 1) cap9))
        have s6 := ((s5.grown hg9 (fun b hb => by have := (hl9 b hb).1; omega)).setOther (p := ⟨w.heap.size + 1, 2, none⟩) (by show S < w.heap.size + 1; omega) (.slice (some ⟨g9, 0, none⟩) (lt.length + 1) cap9))
        clear hHeld hg4 hst3 hR3 s5 hg9 hown9 hat9 hb9 hc9 hf9 hl9 Hads Hrd Hown Hce
        generalize w9.setCell ⟨w.heap.size + 1, 2, none⟩ (.slice (some ⟨g9, 0, none⟩) (lt.length + 1) cap9) = W9 at *
        go_wp2_with fail
        go_roundg (nt - (n + 1))
        case measure => have := hgn.out; omega
        case rel => exact ⟨n + 1, _, lt ++ [tv], by go_num, by omega, rfl, by rw [List.length_append]; simp; omega, all_snoc hto.out Htk.out, hg10, hR4, hst4, s6.mono (by omega)⟩
      ·
       obtain rfl : n = nt := by omega
       have Hto := hto
       clear hgn hlt hn hto
       obtain ⟨at9, ct9, rfl, hsat, -, -⟩ := hg.ft.form
       have hb0 := Box.new wr 9 #[.string ⟨#[119, 105, 108]⟩, .string ⟨#[120, 97, 110]⟩, .string ⟨#[121, 117, 108]⟩]
       have hg1 := hg.alloc (.cells #[.string ⟨#[119, 105, 108]⟩, .string ⟨#[120, 97, 110]⟩, .string ⟨#[121, 117, 108]⟩] 9)
       have hR1 := hR.alloc (.cells #[.string ⟨#[119, 105, 108]⟩, .string ⟨#[120, 97, 110]⟩, .string ⟨#[121, 117, 108]⟩] 9)
       have hst1 := hst.alloc (.cells #[.string ⟨#[119, 105, 108]⟩, .string ⟨#[120, 97, 110]⟩, .string ⟨#[121, 117, 108]⟩] 9)
       have hs1 := hsm.alloc (.cells #[.string ⟨#[119, 105, 108]⟩, .string ⟨#[120, 97, 110]⟩, .string ⟨#[121, 117, 108]⟩] 9)
       have hpbS : S < wr.heap.size := hSr
       have hpbg : w.heap.size + 1 < wr.heap.size := hg.box.lt
       have Htal : Hid (∀ j, (Value.slice at9 lt.length ct9).ownBlock = some j → j < wr.heap.size) := fun j hj => (hg.ft.lt j hj).2
       clear hg hR hst hsm hsat
       go_upto_region 20 with (fail)
       generalize wr.alloc (.cells #[.string ⟨#[119, 105, 108]⟩, .string ⟨#[120, 97, 110]⟩, .string ⟨#[121, 117, 108]⟩] 9) = W3 at *
       generalize wr.heap.size = pb at *
       go_loopg [96] 3 (fun gk i wr => ∃ (q : Nat) (vw : Value) (lw : List Wsh), i = .int .i64 q ∧ q ≤ 3 ∧ Hid (gk = 3 - q) ∧ lw.length ≤ q ∧ Hid (∀ x ∈ lw, WshOk x) ∧ GW (w.heap.size + 2) (w.heap.size + 1) vr vs (.slice at9 lt.length ct9) vw (.slice none 0 0) lr ls lt lw [] wr ∧ Box wr pb 9 #[.string ⟨#[119, 105, 108]⟩, .string ⟨#[120, 97, 110]⟩, .string ⟨#[121, 117, 108]⟩] ∧ vw.ownBlock ≠ some pb ∧ Box wr w.heap.size 32 #[.slice none 0 0, .slice none 0 0, .slice none 0 0, .slice none 0 0, .slice none 0 0] ∧ Stp S w wr ∧ Strm S (B + k + 1 + 2 * m + 5 * n + 22 * q) wr)
       case atStart => exact ⟨0, _, [], rfl, by omega, rfl, by simp, fun x hx => (by cases hx), hg1, hb0, (fun e => by cases e), hR1, hst1, hs1.mono (by omega)⟩
       case round =>
        clear hg1 hb0 hR1 hst1 hs1 hz hSr
        obtain ⟨q, vw, lw, rfl, hq, hgq, hlw, hwo, hg, hpb, hvp, hR, hst, hsm⟩ := hrel
        have hz := hst.size
        have hSr := hsm.lt
        by_cases hlt : q < 3
        ·
         obtain ⟨nm, hnm, hlit⟩ : ∃ nm : ByteArray, nm.size ≤ 1000 ∧ ([Value.string ⟨#[119, 105, 108]⟩, .string ⟨#[120, 97, 110]⟩, .string ⟨#[121, 117, 108]⟩] : List Value)[q]'(by simpa using hlt) = .string nm := by
          obtain rfl | rfl | rfl : q = 0 ∨ q = 1 ∨ q = 2 := by omega
          ·
           exact ⟨_, by decide, rfl⟩
          ·
           exact ⟨_, by decide, rfl⟩
          ·
           exact ⟨_, by decide, rfl⟩
         have hcq : wr.cell? ⟨pb, q, none⟩ = some (.string nm) := by
          rw [hpb.cell q]
          have h4 : ([Value.string ⟨#[119, 105, 108]⟩, .string ⟨#[120, 97, 110]⟩, .string ⟨#[121, 117, 108]⟩] : List Value)[q]? = some (.string nm) := by rw [List.getElem?_eq_getElem (by simpa using hlt), hlit]
          simpa using h4
         have hq1 : (0 : Int) ≤ (q : Int) := by omega
         have hq2 : (q : Int) < 3 := by omega
         have hc2 := hg.box.cell 2
         simp at hc2
         go_upto_region 24 with (fail)
         clear hcq hq1 hq2 hc2 hlit
         have Hown : Hid (∀ j, (vr.ownBlock = some j ∨ vs.ownBlock = some j ∨ (Value.slice at9 lt.length ct9).ownBlock = some j ∨ vw.ownBlock = some j) → j < wr.heap.size) := fun j hj => by
          rcases hj with hj | hj | hj | hj
          ·
           exact (hg.fr.lt j hj).2
          ·
           exact (hg.fs.lt j hj).2
          ·
           exact (hg.ft.lt j hj).2
          ·
           exact (hg.fw.lt j hj).2
         have hgl := hg.box.lt
         have hpl := hpb.lt
         obtain ⟨wo, rfl⟩ : ∃ wo : World, wo = wr := ⟨_, rfl⟩
         go_loopg [103, 16] lt.length (fun gk i2 v16 wr => ∃ (j : Nat) (l : List ByteArray), i2 = .int .i64 j ∧ j ≤ lt.length ∧ Hid (gk = lt.length - j) ∧ l.length ≤ j ∧ Hid (∀ x ∈ l, SmallS x) ∧ Own wo.heap.size 9 wr v16 l ∧ Stp S wo wr ∧ Strm S (B + k + 1 + 2 * m + 5 * n + 22 * q + j) wr)
         case atStart => exact ⟨0, [], rfl, by omega, rfl, by simp, fun x hx => (by cases hx), Own.nil _ _ _, Stp.refl _ _, hsm.mono (by omega)⟩
         case round =>
          clear hsm
          have Hg := Lib.hid hg
          have Hpb := Lib.hid hpb
          have HR := Lib.hid hR
          have Hst := Lib.hid hst
          clear hg hpb hR hst
          obtain ⟨j, l, rfl, hj, hgj, hll, hls2, hown, hko, hsm⟩ := hrel
          have hSr2 := hsm.lt
          have hzo := hko.size
          by_cases hlj : j < lt.length
          ·
           obtain ⟨a', c', he, hsat, -, -⟩ := (Hg.out.stp hko (by omega) (by omega)).ft.form
           simp only [Value.slice.injEq] at he
           obtain ⟨rfl, -, -⟩ := he
           obtain ⟨b, off, ha, c0, c1, c2, c3⟩ := hsat.tlk hlj
           have Htk := Lib.hid (Hto.out lt[j] (List.getElem_mem hlj))
           have hpz := Htk.out.1
           generalize lt[j] = y at *
           obtain ⟨yp, ysp, yto, ylo, ya1, yc1, ya2, yc2⟩ := y
           simp only at c0 c1 c2 c3 hpz
           have Ha := Lib.hid ha
           rw [ha]
           have hj1 : (0 : Int) ≤ (j : Int) := by omega
           have hj2 : (j : Int) < (lt.length : Int) := by omega
           have hT := Box.new wr 60 #[.string yp, .slice ya1 ysp.length yc1, .slice ya2 yto.length yc2, .int .i64 ylo]
           go_wp2_with fail
           refine (flip_any S (B + k + 1 + 2 * m + 5 * n + 22 * q + j) 2 _ (hsm.alloc _) (by omega) (by omega) (by omega)).mono ?_
           rintro e w1 ⟨fl, rfl, h4, s4⟩
           have hT1 := hT.stp h4 (by omega)
           have hko1 := (hko.alloc (.cells #[.string yp, .slice ya1 ysp.length yc1, .slice ya2 yto.length yc2, .int .i64 ylo] 60)).trans h4
           have hown1 := (hown.alloc (.cells #[.string yp, .slice ya1 ysp.length yc1, .slice ya2 yto.length yc2, .int .i64 ylo] 60)).stp h4 (by omega)
           have hz1 := h4.size
           simp at hz1
           have hc0 := hT1.cell 0
           simp at hc0
           clear hT hko hown h4 hsm c0 c1 c2 c3 hsat hT1 Htk ha
           cases fl
           ·
            go_wp2_with fail
            rw [← Ha.out]
            go_roundg (lt.length - (j + 1))
            case measure => have := hgj.out; omega
            case rel => exact ⟨j + 1, l, by go_num, by omega, rfl, by omega, hls2, hown1, hko1, s4.mono (by omega)⟩
           ·
            have hol1 := hown1.lt
            go_wp2_with (at_builtin; refine wpList_append_lie (α := ByteArray) rfl _ _ 57 rfl 9 16 (.string ⟨#[]⟩) Tryz.underlying57 Tryz.infoString rfl _ l rfl (hown1.alloc _) yp _ rfl (Box.new _ _ _) (by omega) (by omega) (by simp; omega) ?_; intro g9 cap9 w9 hown9 hg9 hat9; have hko9 := (hko1.alloc (.cells #[.string yp] 9)).grown hg9 (fun b hb => .inr (hol1 b hb).1); have s9 := (s4.alloc (.cells #[.string yp] 9)).grown hg9 (fun b hb => by have := (hol1 b hb).1; omega))
            rw [← Ha.out]
            go_roundg (lt.length - (j + 1))
            case measure => have := hgj.out; omega
            case rel => exact ⟨j + 1, l ++ [yp], by go_num, by omega, rfl, by rw [List.length_append]; simp; omega, all_snoc hls2.out hpz, hown9, hko9, s9.mono (by omega)⟩
          ·
           obtain rfl : j = lt.length := by omega
           clear hgj hlj hj
           obtain ⟨a16, c16, rfl, hsa16, hbl16, hcp16⟩ := hown.sa
           go_wp2_with fail
           refine (flip_any S (B + k + 1 + 2 * m + 5 * n + 22 * q + lt.length) 4 _ hsm (by omega) (by omega) (by omega)).mono ?_
           rintro e w1 ⟨fl, rfl, h4, s4⟩
           have hko1 := hko.trans h4
           have hg1 := Hg.out.stp hko1 (by omega) (by omega)
           have hpb1 := Hpb.out.stp hko1 (by omega)
           have hR1 := HR.out.stp hko1 (by omega)
           have hst1 := Hst.out.trans hko1
           have hsa1 := hsa16.stp h4 (fun y hy => by have := (hbl16 y hy).1; omega)
           have hz1 := h4.size
           clear hko hown hsm h4 hsa16 Hg Hpb HR Hst
           cases fl
           ·
            have hc3 := hg1.box.cell 3
            simp at hc3
            obtain ⟨wv, hwv⟩ : ∃ wv : Wsh, wv = ⟨nm, l, a16, c16⟩ := ⟨_, rfl⟩
            have Hce : Hid (Cel.cells wv = [.string nm, .slice a16 l.length c16]) := by show _ = _; rw [hwv]; rfl
            have Hwk : Hid (WshOk wv) := by rw [hwv]; exact ⟨hnm, by show l.length ≤ _; omega, hls2.out, hcp16⟩
            have Hads : Hid (∀ y ∈ Nst.ads wv, wo.heap.size ≤ y.block ∧ y.block < w1.heap.size) := fun y hy => by
             rw [hwv] at hy
             have hy2 : y ∈ a16.toList := hy
             have e : a16 = some y := by simpa using hy2
             have := hbl16 y e
             omega
            have Hrd : Hid (Nst.rd w1 wv) := by
             show SA w1 wv.a1 wv.papers
             rw [hwv]; exact hsa1
            have hg4 := hg1.alloc (.cells #[.string nm, .slice a16 l.length c16] 62)
            have hpb4 := hpb1.alloc (.cells #[.string nm, .slice a16 l.length c16] 62)
            have hR4 := hR1.alloc (.cells #[.string nm, .slice a16 l.length c16] 62)
            have hst4 := hst1.alloc (.cells #[.string nm, .slice a16 l.length c16] 62)
            have s5 := s4.alloc (.cells #[.string nm, .slice a16 l.length c16] 62)
            have hbw := hg1.box.lt
            clear hwv hg1 hpb1 hR1 hst1 s4 hsa1 hbl16
            go_wp2_with (at_builtin; refine wpList_append_lie (α := Wsh) rfl _ _ 29 rfl 62 40 (.agg #[.string ⟨#[]⟩, .slice none 0 0]) Tryz.underlying29 infoWsh rfl _ lw rfl hg4.fw wv _ rfl (by rw [Hce.out]; exact Box.new _ _ _) (by omega) (by omega) (by simp; omega) ?_; intro g9 cap9 w9 hown9 hg9 hat9; have hb9 := hg4.box.kp ((Kp.refl (fun j => vw.ownBlock = some j) _).grown hg9 (fun j hj => .inl hj)) hg4.xw; have hc9 := hb9.cell 3; have hf9 := hb9.frozen 3; simp at hc9)
            replace hg9 : (w1.alloc (.cells #[.string nm, .slice a16 l.length c16] 62)).grownBy w9 vw.ownBlock := hg9
            replace hat9 : vw.ownBlock = some g9 ∨ g9 = (w1.alloc (.cells #[.string nm, .slice a16 l.length c16] 62)).heap.size := hat9
            have hl9 := hg4.fw.lt
            have hg10 := hg4.putw hg9 hown9 (atNew hat9) (fun z hz => by
             rcases List.mem_append.1 hz with hz | hz
             ·
              exact .inl hz
             ·
              rw [List.mem_singleton] at hz
              subst hz
              refine .inr ⟨Nst.same Hrd.out (fun y hy => Below.heap_alloc _ _ _ (Hads.out y hy).2), fun y hy => ?_⟩
              have h6 := Hads.out y hy
              exact ⟨by omega, by simp; omega, fun e => by have := Hown.out _ (.inl e); omega, fun e => by have := Hown.out _ (.inr (.inl e)); omega, fun e => by have := Hown.out _ (.inr (.inr (.inl e))); omega, fun e => by have := Hown.out _ (.inr (.inr (.inr e))); omega, (fun e => by cases e), by omega⟩)
            have hst5 : Stp S w (w9.setCell ⟨w.heap.size + 1, 3, none⟩ (.slice (some ⟨g9, 0, none⟩) (lw.length + 1) cap9)) := (hst4.grown hg9 (fun b hb => .inr (by have := (hl9 b hb).1; omega))).setCell (.inr (by show _ ≤ w.heap.size + 1; omega)) _
            have hR5 := ((hR4.grown hg9 (fun e => by have := (hl9 _ e.symm).1; omega)).setOther (p := ⟨w.heap.size + 1, 3, none⟩) (by show w.heap.size + 1 ≠ w.heap.size; omega) (.slice (some ⟨g9, 0, none⟩) (lw.length + 1) cap9))
            have hpb5 := ((hpb4.grown hg9 (fun e => hvp e.symm)).setOther (p := ⟨w.heap.size + 1, 3, none⟩) (by show w.heap.size + 1 ≠ pb; omega) (.slice (some ⟨g9, 0, none⟩) (lw.length + 1) cap9))
            have s6 := ((s5.grown hg9 (fun b hb => by have := (hl9 b hb).1; omega)).setOther (p := ⟨w.heap.size + 1, 3, none⟩) (by show S < w.heap.size + 1; omega) (.slice (some ⟨g9, 0, none⟩) (lw.length + 1) cap9))
            have hvp9 : (Value.slice (some ⟨g9, 0, none⟩) (lw.length + 1) cap9).ownBlock ≠ some pb := fun e => by
             obtain rfl : g9 = pb := Option.some.inj e
             rcases hat9 with h | h
             ·
              exact hvp h
             ·
              simp at h; omega
            clear hg4 hst4 hR4 hpb4 s5 hg9 hown9 hat9 hb9 hc9 hf9 hl9 Hads Hrd Hce
            go_roundg (3 - (q + 1))
            case measure => have := hgq.out; omega
            case rel => exact ⟨q + 1, _, lw ++ [wv], by go_num, by omega, rfl, by rw [List.length_append]; simp; omega, all_snoc hwo.out Hwk.out, hg10, hpb5, hvp9, hR5, hst5, s6.mono (by omega)⟩
           ·
            go_wp2_with fail
            go_roundg (3 - (q + 1))
            case measure => have := hgq.out; omega
            case rel => exact ⟨q + 1, vw, lw, by go_num, by omega, rfl, by omega, hwo, hg1, hpb1, hvp, hR1, hst1, s4.mono (by omega)⟩
        ·
         obtain rfl : q = 3 := by omega
         have Hwo := hwo
         clear hgq hlt hq hwo hpb hvp
         obtain ⟨as9, cs9, rfl, -, -, -⟩ := hg.fs.form
         have hb0 := Box.new wr 9 #[.string ⟨#[97, 110, 110]⟩, .string ⟨#[98, 111]⟩]
         have hg1 := hg.alloc (.cells #[.string ⟨#[97, 110, 110]⟩, .string ⟨#[98, 111]⟩] 9)
         have hR1 := hR.alloc (.cells #[.string ⟨#[97, 110, 110]⟩, .string ⟨#[98, 111]⟩] 9)
         have hst1 := hst.alloc (.cells #[.string ⟨#[97, 110, 110]⟩, .string ⟨#[98, 111]⟩] 9)
         have hs1 := hsm.alloc (.cells #[.string ⟨#[97, 110, 110]⟩, .string ⟨#[98, 111]⟩] 9)
         have hpcS : S < wr.heap.size := hSr
         have hpcg : w.heap.size + 1 < wr.heap.size := hg.box.lt
         clear hg hR hst hsm
         go_upto_region 33 with (fail)
         generalize wr.alloc (.cells #[.string ⟨#[97, 110, 110]⟩, .string ⟨#[98, 111]⟩] 9) = W6 at *
         generalize wr.heap.size = pc at *
         go_loopg [128] 2 (fun gk i wr => ∃ (d : Nat) (vb : Value) (lb : List Ban2), i = .int .i64 d ∧ d ≤ 2 ∧ Hid (gk = 2 - d) ∧ lb.length ≤ d ∧ Hid (∀ x ∈ lb, BanOk x) ∧ GW (w.heap.size + 2) (w.heap.size + 1) vr (.slice as9 ls.length cs9) (.slice at9 lt.length ct9) vw vb lr ls lt lw lb wr ∧ Box wr pc 9 #[.string ⟨#[97, 110, 110]⟩, .string ⟨#[98, 111]⟩] ∧ vb.ownBlock ≠ some pc ∧ Box wr w.heap.size 32 #[.slice none 0 0, .slice none 0 0, .slice none 0 0, .slice none 0 0, .slice none 0 0] ∧ Stp S w wr ∧ Strm S (B + k + 1 + 2 * m + 5 * n + 66 + 2 * d) wr)
         case atStart => exact ⟨0, _, [], rfl, by omega, rfl, by simp, fun x hx => (by cases hx), hg1, hb0, (fun e => by cases e), hR1, hst1, hs1.mono (by omega)⟩
         case round =>
          clear hg1 hb0 hR1 hst1 hs1 hz hSr
          obtain ⟨d, vb, lb, rfl, hd, hgd, hlb, hbo, hg, hpc, hvp, hR, hst, hsm⟩ := hrel
          have hz := hst.size
          have hSr := hsm.lt
          by_cases hlt : d < 2
          ·
           obtain ⟨nm, hnm, hlit⟩ : ∃ nm : ByteArray, nm.size ≤ 1000 ∧ ([Value.string ⟨#[97, 110, 110]⟩, .string ⟨#[98, 111]⟩] : List Value)[d]'(by simpa using hlt) = .string nm := by
            obtain rfl | rfl : d = 0 ∨ d = 1 := by omega
            ·
             exact ⟨_, by decide, rfl⟩
            ·
             exact ⟨_, by decide, rfl⟩
           have hcq : wr.cell? ⟨pc, d, none⟩ = some (.string nm) := by
            rw [hpc.cell d]
            have h4 : ([Value.string ⟨#[97, 110, 110]⟩, .string ⟨#[98, 111]⟩] : List Value)[d]? = some (.string nm) := by rw [List.getElem?_eq_getElem (by simpa using hlt), hlit]
            simpa using h4
           have hq1 : (0 : Int) ≤ (d : Int) := by omega
           have hq2 : (d : Int) < 2 := by omega
           have hc1 := hg.box.cell 1
           simp at hc1
           by_cases hl0 : ls.length = 0
           ·
            have hdz : decide ((0 : Int) < (ls.length : Int)) = false := decide_eq_false (by omega)
            go_wp2_with fail
            go_roundg (2 - (d + 1))
            case measure => have := hgd.out; omega
            case rel => exact ⟨d + 1, vb, lb, by go_num, by omega, rfl, by omega, hbo, hg, hpc, hvp, hR, hst, hsm.mono (by omega)⟩
           ·
            have hdz : decide ((0 : Int) < (ls.length : Int)) = true := decide_eq_true (by omega)
            go_wp2_with fail
            refine (flip_any S (B + k + 1 + 2 * m + 5 * n + 66 + 2 * d) 4 _ hsm (by omega) (by omega) (by omega)).mono ?_
            rintro e w1 ⟨fl, rfl, h4, s4⟩
            have hg1 := hg.stp h4 (by omega) (by omega)
            have hpc1 := hpc.stp h4 (by omega)
            have hR1 := hR.stp h4 (by omega)
            have hst1 := hst.trans h4
            have hz1 := h4.size
            clear hg hpc hR hst hsm h4 hc1 hcq
            cases fl
            ·
             go_wp2_with fail
             go_roundg (2 - (d + 1))
             case measure => have := hgd.out; omega
             case rel => exact ⟨d + 1, vb, lb, by go_num, by omega, rfl, by omega, hbo, hg1, hpc1, hvp, hR1, hst1, s4.mono (by omega)⟩
            ·
             have hgl := hg1.box.lt
             have hSr1 := s4.lt
             have hc1 := hg1.box.cell 1
             have hc4 := hg1.box.cell 4
             simp at hc1 hc4
             have hg2 := hg1.below (Below.refl _ _).drew
             have hs2 := Strm.drewN s4 1
             have hst2 : Stp S w w1.drew := hst1.drewN 1
             have hR2 := hR1.drew
             have hpc2 := hpc1.drew
             clear hg1 hst1 s4 hR1 hpc1
             go_upto_region 36 with (fail)
             refine wp_regionF (S := (fun wx => wx.cell? ⟨w.heap.size + 1, 4, none⟩ = some vb ∧ wx.cell? ⟨w.heap.size + 1, 1, none⟩ = some (.slice as9 ls.length cs9))) 17 (by kernel_rfl) ?hS (fun hHeld => ?_)
             case hS => exact ⟨hc4, hc1⟩
             refine rtakeF (i := 0) (d := (some 140)) (v := ?_) (n := 40) rfl (by kernel_rfl) (by kernel_rfl) (by kernel_rfl) (by kernel_rfl) (by kernel_rfl) (by kernel_rfl) (fun _ _ _ h => h) (by kernel_rfl) (by assumption) ?_ ?_
             rotate_left 1
             ·
              (intro wI hSI; (try dsimp only at hSI); go_simp; (try with_reducible rfl))
             simp only [Act.put, lsetA, lsetZ, lsetS]
             refine rtakeF (i := 1) (d := (some 141)) (v := ?_) (n := 40) rfl (by kernel_rfl) (by kernel_rfl) (by kernel_rfl) (by kernel_rfl) (by kernel_rfl) (by kernel_rfl) (fun _ _ _ h => h) (by kernel_rfl) (by assumption) ?_ ?_
             rotate_left 1
             ·
              (intro wI hSI; (try dsimp only at hSI); go_simp; (try with_reducible rfl))
             simp only [Act.put, lsetA, lsetZ, lsetS]
             refine rtakeF (i := 2) (d := (some 142)) (v := ?_) (n := 40) rfl (by kernel_rfl) (by kernel_rfl) (by kernel_rfl) (by kernel_rfl) (by kernel_rfl) (by kernel_rfl) (fun _ _ _ h => h) (by kernel_rfl) (by assumption) ?_ ?_
             rotate_left 1
             ·
              (intro wI hSI; (try dsimp only at hSI); go_simp; (try with_reducible rfl))
             simp only [Act.put, lsetA, lsetZ, lsetS]
             refine rtakeF (i := 3) (d := (some 143)) (v := ?_) (n := 40) rfl (by kernel_rfl) (by kernel_rfl) (by kernel_rfl) (by kernel_rfl) (by kernel_rfl) (by kernel_rfl) (fun _ _ _ h => h) (by kernel_rfl) (by assumption) ?_ ?_
             rotate_left 1
             ·
              (intro wI hSI; (try dsimp only at hSI); go_simp; (try with_reducible rfl))
             simp only [Act.put, lsetA, lsetZ, lsetS]
             refine rtakeF (i := 4) (d := (some 144)) (v := ?_) (n := 40) rfl (by kernel_rfl) (by kernel_rfl) (by kernel_rfl) (by kernel_rfl) (by kernel_rfl) (by kernel_rfl) (fun _ _ _ h => h) (by kernel_rfl) (by assumption) ?_ ?_
             rotate_left 1
             ·
              (intro wI hSI; (try dsimp only at hSI); go_simp; (try with_reducible rfl))
             simp only [Act.put, lsetA, lsetZ, lsetS]
             refine rtakeF (i := 5) (d := (some 145)) (v := ?_) (n := 40) rfl (by kernel_rfl) (by kernel_rfl) (by kernel_rfl) (by kernel_rfl) (by kernel_rfl) (by kernel_rfl) (fun _ _ _ h => h) (by kernel_rfl) (by assumption) ?_ ?_
             rotate_left 1
             ·
              (intro wI hSI; (try dsimp only at hSI); go_simp; (try with_reducible rfl))
             simp only [Act.put, lsetA, lsetZ, lsetS]
             refine rtakeF (i := 6) (d := (some 146)) (v := ?_) (n := 40) rfl (by kernel_rfl) (by kernel_rfl) (by kernel_rfl) (by kernel_rfl) (by kernel_rfl) (by kernel_rfl) (fun _ _ _ h => h) (by kernel_rfl) (by assumption) ?_ ?_
             rotate_left 1
             ·
              (intro wI hSI; (try dsimp only at hSI); go_simp; (try with_reducible rfl))
             simp only [Act.put, lsetA, lsetZ, lsetS]
             refine rtakeF (i := 7) (d := (some 147)) (v := ?_) (n := 40) rfl (by kernel_rfl) (by kernel_rfl) (by kernel_rfl) (by kernel_rfl) (by kernel_rfl) (by kernel_rfl) (fun _ _ _ h => h) (by kernel_rfl) (by assumption) ?_ ?_
             rotate_left 1
             ·
              (intro wI hSI; (try dsimp only at hSI); go_simp; (try with_reducible rfl))
             simp only [Act.put, lsetA, lsetZ, lsetS]
             refine rtakeF (i := 8) (d := (some 148)) (v := ?_) (n := 40) rfl (by kernel_rfl) (by kernel_rfl) (by kernel_rfl) (by kernel_rfl) (by kernel_rfl) (by kernel_rfl) (fun _ _ _ h => h) (by kernel_rfl) (by assumption) ?_ ?_
             rotate_left 1
             ·
              (intro wI hSI; (try dsimp only at hSI); go_simp; (try with_reducible rfl))
             simp only [Act.put, lsetA, lsetZ, lsetS]
             refine rcallF (i := 9) (d := (some 149)) (by kernel_rfl) rfl (by kernel_rfl) (fun K hK => ?_)
             go_simp
             go_at_call 20; refine (next_any S (B + k + 1 + 2 * m + 5 * n + 66 + 2 * d + 1) ls.length _ hs2 (by omega) (by omega) (by omega)).mono ?_; rintro e w2 ⟨r, ⟨hr1, hr2⟩, rfl, h5, s5⟩; have hg3 := hg2.stp h5 (by omega) (by omega)
             refine hK.out _ _ (.inr ?hS) (fun hHeld0 => ?_)
             case hS => exact ⟨hg3.box.cell 4, hg3.box.cell 1⟩
             clear hK K
             have hHeld := hHeld0.resolve_left (by decide)
             simp only [Act.put, lsetA, lsetZ, lsetS]
             obtain ⟨ri, rfl⟩ := Int.eq_ofNat_of_zero_le hr1
             have hri : ri < ls.length := by omega
             obtain ⟨a', c', he, hsas, -, -⟩ := hg3.fs.form
             simp only [Value.slice.injEq] at he
             obtain ⟨rfl, -, -⟩ := he
             obtain ⟨sb, so, ha, hck⟩ := hsas.slt hri
             have Hsk := (Hso.out ls[ri] (List.getElem_mem hri)).1
             generalize ls[ri].1 = sk at *
             subst ha
             refine rtakeF (i := 10) (d := (some 150)) (v := ?_) (n := 40) rfl (by kernel_rfl) (by kernel_rfl) (by kernel_rfl) (by kernel_rfl) (by kernel_rfl) (by kernel_rfl) (fun _ _ _ h => h) (by kernel_rfl) (by assumption) ?_ ?_
             rotate_left 1
             ·
              (intro wI hSI; (try dsimp only at hSI); go_simp; (try with_reducible rfl))
             simp only [Act.put, lsetA, lsetZ, lsetS]
             refine rtakeF (i := 11) (d := (some 151)) (v := ?_) (n := 40) rfl (by kernel_rfl) (by kernel_rfl) (by kernel_rfl) (by kernel_rfl) (by kernel_rfl) (by kernel_rfl) (fun _ _ _ h => h) (by kernel_rfl) (by assumption) ?_ ?_
             rotate_left 1
             ·
              (intro wI hSI; (try dsimp only at hSI); go_simp; (try with_reducible rfl))
             simp only [Act.put, lsetA, lsetZ, lsetS]
             refine rcallF (i := 12) (d := (some 152)) (by kernel_rfl) rfl (by kernel_rfl) (fun K hK => ?_)
             go_simp
             refine hK.out _ _ (.inr ?hS) (fun hHeld0 => ?_)
             case hS => exact ⟨hg3.box.cell 4, hg3.box.cell 1⟩
             clear hK K
             have hHeld := hHeld0.resolve_left (by decide)
             simp only [Act.put, lsetA, lsetZ, lsetS]
             refine rtakeF (i := 13) (d := (some 153)) (v := ?_) (n := 40) rfl (by kernel_rfl) (by kernel_rfl) (by kernel_rfl) (by kernel_rfl) (by kernel_rfl) (by kernel_rfl) (fun _ _ _ h => h) (by kernel_rfl) (by assumption) ?_ ?_
             rotate_left 1
             ·
              (intro wI hSI; (try dsimp only at hSI); go_simp; (try with_reducible rfl))
             simp only [Act.put, lsetA, lsetZ, lsetS]
             have hg4 := hg3.alloc (.cells #[.string nm, .string sk] 64)
             have hst3 := (hst2.trans h5).alloc (.cells #[.string nm, .string sk] 64)
             have hR3 := (hR2.stp h5 (by omega)).alloc (.cells #[.string nm, .string sk] 64)
             have hpc3 := (hpc2.stp h5 (by omega)).alloc (.cells #[.string nm, .string sk] 64)
             have s6 := s5.alloc (.cells #[.string nm, .string sk] 64)
             have hz2 := h5.size
             simp at hz2
             clear hg3 hst2 hR2 hpc2 s5 h5 hg2 hs2 hsas hck
             refine rcallF (i := 14) (d := (some 154)) (by kernel_rfl) rfl (by kernel_rfl) (fun K hK => ?_)
             go_simp
             refine hK.out _ _ (.inr ?hS) (fun hHeld0 => ?_)
             case hS => exact ⟨hg4.box.cell 4, hg4.box.cell 1⟩
             clear hK K
             have hHeld := hHeld0.resolve_left (by decide)
             simp only [Act.put, lsetA, lsetZ, lsetS]
             refine rcallF (i := 15) (d := (some 155)) (by kernel_rfl) rfl (by kernel_rfl) (fun K hK => ?_)
             refine step_append_lie (α := Ban2) (by rfl) _ _ 30 (by rfl) 64 32 (.agg #[.string ⟨#[]⟩, .string ⟨#[]⟩]) Tryz.underlying30 infoBan (by rfl) vb lb (by rfl) hg4.fb (nm, sk) _ (by rfl) (Box.new _ _ _) (by omega) (by omega) (by simp; omega) ?_; intro g9 cap9 w9 hown9 hg9 hat9; have hb9 := hg4.box.kp ((Kp.refl (fun j => vb.ownBlock = some j) _).grown hg9 (fun j hj => .inl hj)) hg4.xb; have hc9 := hb9.cell 4; have hc91 := hb9.cell 1; have hf9 := hb9.frozen 4; simp at hc9 hc91
             refine hK.out _ _ (.inr ?hS) (fun hHeld0 => ?_)
             case hS => exact ⟨hc9, hc91⟩
             clear hK K
             have hHeld := hHeld0.resolve_left (by decide)
             simp only [Act.put, lsetA, lsetZ, lsetS]
             refine rtakeF (i := 16) (d := (some 156)) (v := ?_) (n := 40) rfl (by kernel_rfl) (by kernel_rfl) (by kernel_rfl) (by kernel_rfl) (by kernel_rfl) (by kernel_rfl) (fun _ _ _ h => h) (by kernel_rfl) (by assumption) ?_ ?_
             rotate_left 1
             ·
              (intro wI hSI; (try dsimp only at hSI); go_simp; (try with_reducible rfl))
             simp only [Act.put, lsetA, lsetZ, lsetS]
             refine rcallF (i := 17) (d := none) (by kernel_rfl) rfl (by kernel_rfl) (fun K hK => ?_)
             go_simp
             refine hK.out undef _ (.inl rfl) (fun _ => ?_)
             clear hK K
             simp only [Act.put, lsetA, lsetZ, lsetS]
             refine wpAnyF_done (by kernel_rfl) ?_ _
             have hl9 := hg4.fb.lt
             have hg10 := hg4.putb hg9 hown9 (atNew hat9)
             have hst5 : Stp S w (w9.setCell ⟨w.heap.size + 1, 4, none⟩ (.slice (some ⟨g9, 0, none⟩) (lb.length + 1) cap9)) := (hst3.grown hg9 (fun b hb => .inr (by have := (hl9 b hb).1; omega))).setCell (.inr (by show _ ≤ w.heap.size + 1; omega)) _
             have hR5 := ((hR3.grown hg9 (fun e => by have := (hl9 _ e.symm).1; omega)).setOther (p := ⟨w.heap.size + 1, 4, none⟩) (by show w.heap.size + 1 ≠ w.heap.size; omega) (.slice (some ⟨g9, 0, none⟩) (lb.length + 1) cap9))
             have hpc5 := ((hpc3.grown hg9 (fun e => hvp e.symm)).setOther (p := ⟨w.heap.size + 1, 4, none⟩) (by show w.heap.size + 1 ≠ pc; omega) (.slice (some ⟨g9, 0, none⟩) (lb.length + 1) cap9))
             have s7 := ((s6.grown hg9 (fun b hb => by have := (hl9 b hb).1; omega)).setOther (p := ⟨w.heap.size + 1, 4, none⟩) (by show S < w.heap.size + 1; omega) (.slice (some ⟨g9, 0, none⟩) (lb.length + 1) cap9))
             have hpcl := hpc3.lt
             have hvp9 : (Value.slice (some ⟨g9, 0, none⟩) (lb.length + 1) cap9).ownBlock ≠ some pc := fun e => by
              obtain rfl : g9 = pc := Option.some.inj e
              rcases hat9 with h | h
              ·
               exact hvp h
              ·
               omega
             clear hHeld hg4 hst3 hR3 hpc3 s6 hg9 hown9 hat9 hb9 hc9 hc91 hf9 hl9
             generalize w9.setCell ⟨w.heap.size + 1, 4, none⟩ (.slice (some ⟨g9, 0, none⟩) (lb.length + 1) cap9) = W9 at *
             go_wp2_with fail
             go_roundg (2 - (d + 1))
             case measure => have := hgd.out; omega
             case rel => exact ⟨d + 1, _, lb ++ [(nm, sk)], by go_num, by omega, rfl, by rw [List.length_append]; simp; omega, all_snoc hbo.out ⟨hnm, Hsk⟩, hg10, hpc5, hvp9, hR5, hst5, s7.mono (by omega)⟩
          ·
           obtain rfl : d = 2 := by omega
           obtain ⟨ar, cr, rfl, -, -, -⟩ := hg.fr.form
           obtain ⟨aw, cw, rfl, -, -, -⟩ := hg.fw.form
           obtain ⟨ab, cb, rfl, -, -, -⟩ := hg.fb.form
           have hgb := hg.box
           have hkF : Kp (fun j => j = w.heap.size) wr (((((wr.setCell ⟨w.heap.size, 0, none⟩ (.slice ar lr.length cr)).setCell ⟨w.heap.size, 1, none⟩ (.slice as9 ls.length cs9)).setCell ⟨w.heap.size, 2, none⟩ (.slice at9 lt.length ct9)).setCell ⟨w.heap.size, 3, none⟩ (.slice aw lw.length cw)).setCell ⟨w.heap.size, 4, none⟩ (.slice ab lb.length cb)) := (((((Kp.refl (fun j => j = w.heap.size) wr).setCell (p := ⟨w.heap.size, 0, none⟩) (.inl rfl) _).setCell (p := ⟨w.heap.size, 1, none⟩) (.inl rfl) _).setCell (p := ⟨w.heap.size, 2, none⟩) (.inl rfl) _).setCell (p := ⟨w.heap.size, 3, none⟩) (.inl rfl) _).setCell (p := ⟨w.heap.size, 4, none⟩) (.inl rfl) _
           have hgF := (hg.kp hkF (fun j hj e => by omega)).mono (base2 := w.heap.size) (by omega)
           have hstF : Stp S w (((((wr.setCell ⟨w.heap.size, 0, none⟩ (.slice ar lr.length cr)).setCell ⟨w.heap.size, 1, none⟩ (.slice as9 ls.length cs9)).setCell ⟨w.heap.size, 2, none⟩ (.slice at9 lt.length ct9)).setCell ⟨w.heap.size, 3, none⟩ (.slice aw lw.length cw)).setCell ⟨w.heap.size, 4, none⟩ (.slice ab lb.length cb)) := (((((hst.setCell (p := ⟨w.heap.size, 0, none⟩) (.inr (Nat.le_refl _)) _).setCell (p := ⟨w.heap.size, 1, none⟩) (.inr (Nat.le_refl _)) _).setCell (p := ⟨w.heap.size, 2, none⟩) (.inr (Nat.le_refl _)) _).setCell (p := ⟨w.heap.size, 3, none⟩) (.inr (Nat.le_refl _)) _).setCell (p := ⟨w.heap.size, 4, none⟩) (.inr (Nat.le_refl _)) _)
           have hsF := (hsm.kp hkF (fun j hj e => by omega)).mono (B' := B + 2000) (by omega)
           have HF := Lib.hid (And.intro hgF (And.intro hstF hsF))
           clear hgF hstF hsF hkF hg hst hsm hpc
           have hgb_l := hgb.lt; have hgb_0 := hgb.cell 0; have hgb_1 := hgb.cell 1; have hgb_2 := hgb.cell 2; have hgb_3 := hgb.cell 3; have hgb_4 := hgb.cell 4; simp at hgb_0 hgb_1 hgb_2 hgb_3 hgb_4
           have hR_l := hR.lt; have hR_0 := hR.cell 0; have hR_1 := hR.cell 1; have hR_2 := hR.cell 2; have hR_3 := hR.cell 3; have hR_4 := hR.cell 4; simp at hR_0 hR_1 hR_2 hR_3 hR_4
           have hR_f0 := hR.frozen 0; have hR_f1 := hR.frozen 1; have hR_f2 := hR.frozen 2; have hR_f3 := hR.frozen 3; have hR_f4 := hR.frozen 4
           go_wp2_with fail
           refine bodyPost_ret (v := .agg #[.slice ar lr.length cr, .slice as9 ls.length cs9, .slice at9 lt.length ct9, .slice aw lw.length cw, .slice ab lb.length cb]) (by simp only [results, Tryz.results19]; go_simp) rfl ?_
           exact ⟨_, _, _, _, _, _, lr, ls, lt, lw, lb, rfl, HF.out.1, ⟨by omega, by omega, by omega, by omega, by omega⟩, Hro.out, Hso.out, Hto.out, Hwo.out, hbo.out, HF.out.2.1, HF.out.2.2⟩
end Go.Proofs.YtldgphhiajhfhaaGreatDoor
