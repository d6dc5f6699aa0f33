/- The maker Grid. Written by gen/src/gridm.py. -/
import Derived.Test.YtldgphhiajhfhaaGreatDoorMakeGrid
import Derived.Test.YtldgphhiajhfhaaGreatDoorRevG
namespace Go.Proofs.YtldgphhiajhfhaaGreatDoor
open Go.RowKit
set_option linter.unusedVariables false
set_option linter.unusedSimpArgs false

/-- Kinds of values that a drawn region makes. -/
inductive Kd where
 | str (l : List ByteArray)
 | ints (l : List Int)
 | txt
 | num (lo hi : Int)
 | idx (n : Nat)
 | lst
 | nst (n : Nat)
 | adr
 | any
/-- A list of short strings behind slice header v. -/
def LstV (S n0 : Nat) (v : Value) (w : World) : Prop := ∃ (a : Option Addr) (l : List ByteArray) (cap : Nat), v = .slice a l.length cap ∧ SA w a l ∧ (l.length ≤ 10 ∧ l.length ≤ cap) ∧ (∀ x ∈ l, x.size ≤ 1000) ∧ ∀ y : Addr, a = some y → n0 ≤ y.block ∧ y.block < w.heap.size ∧ y.block ≠ S
theorem LstV.stp {S n0 : Nat} {v : Value} {w w' : World} (h : LstV S n0 v w) (hx : Stp S w w') : LstV S n0 v w' := by
 obtain ⟨a, l, cap, h1, h2, h3, h4, h5⟩ := h
 exact ⟨a, l, cap, h1, h2.stp hx (fun y hy => (h5 y hy).2.2), h3, h4, fun y hy => ⟨(h5 y hy).1, Nat.lt_of_lt_of_le (h5 y hy).2.1 hx.size, (h5 y hy).2.2⟩⟩
def Kd.ok (S n0 : Nat) : Kd → Value → World → Prop
 | .str l, v, w => ∃ p, v = .slice (some ⟨p, 0, none⟩) l.length l.length ∧ Box w p 9 (l.map Value.string).toArray ∧ p ≠ S ∧ n0 ≤ p
 | .ints l, v, w => ∃ p, v = .slice (some ⟨p, 0, none⟩) l.length l.length ∧ Box w p 3 (l.map (Value.int .i64)).toArray ∧ p ≠ S
 | .txt, v, _ => ∃ x : ByteArray, v = .string x ∧ x.size ≤ 1000
 | .num lo hi, v, _ => ∃ z : Int, v = .int .i64 z ∧ lo ≤ z ∧ z ≤ hi
 | .idx n, v, _ => ∃ k : Nat, v = .int .i64 k ∧ k < n
 | .lst, v, w => LstV S n0 v w
 | .nst n, v, w => ∃ (p : Nat) (vs : Array Value), v = .slice (some ⟨p, 0, none⟩) n n ∧ Box w p 57 vs ∧ vs.size = n ∧ p ≠ S ∧ ∀ k < n, LstV S n0 (vs.getD k undef) w
 | .adr, v, w => ∃ (p k : Nat) (u : Value), v = .pointer (some ⟨p, k, none⟩) ∧ w.cell? ⟨p, k, none⟩ = some u ∧ p ≠ S ∧ LstV S n0 u w
 | .any, _, _ => True
theorem Kd.ok.stp {S n0 : Nat} {k : Kd} {v : Value} {w w' : World} (h : k.ok S n0 v w) (hx : Stp S w w') : k.ok S n0 v w' := by
 cases k with
 | str l => obtain ⟨p, a, b, c, d⟩ := h; exact ⟨p, a, b.stp hx c, c, d⟩
 | ints l => obtain ⟨p, a, b, c⟩ := h; exact ⟨p, a, b.stp hx c, c⟩
 | txt => exact h
 | num lo hi => exact h
 | idx n => exact h
 | lst => exact LstV.stp h hx
 | nst n => obtain ⟨p, vs, a, b, c, d, e⟩ := h; exact ⟨p, vs, a, b.stp hx d, c, d, fun k hk => (e k hk).stp hx⟩
 | adr => obtain ⟨p, k, u, a, b, c, d⟩ := h; exact ⟨p, k, u, a, cellKp (Kp.of_stp (X := fun j => j = S) hx rfl) (fun e => c e) b, c, d.stp hx⟩
 | any => trivial
theorem Kd.newStr (S n0 : Nat) (w : World) (l : List ByteArray) (n : Nat) (vs : Array Value) (hv : vs = (l.map Value.string).toArray) (hn : l.length = n) (hz : n0 ≤ w.heap.size) (hS : w.heap.size ≠ S) : (Kd.str l).ok S n0 (.slice (some ⟨w.heap.size, 0, none⟩) n n) (w.alloc (.cells vs 9)) := by
 subst hn hv
 exact ⟨_, rfl, Box.new _ _ _, hS, hz⟩
theorem Kd.newInt (S n0 : Nat) (w : World) (l : List Int) (n : Nat) (vs : Array Value) (hv : vs = (l.map (Value.int .i64)).toArray) (hn : l.length = n) (hz : n0 ≤ w.heap.size) (hS : w.heap.size ≠ S) : (Kd.ints l).ok S n0 (.slice (some ⟨w.heap.size, 0, none⟩) n n) (w.alloc (.cells vs 3)) := by
 subst hn hv
 exact ⟨_, rfl, Box.new _ _ _, hS⟩
theorem Kd.newNst (S n0 : Nat) (w : World) (n : Nat) (vs : Array Value) (hn : vs.size = n) (hS : w.heap.size ≠ S) (h : ∀ k < n, LstV S n0 (vs.getD k undef) (w.alloc (.cells vs 57))) : (Kd.nst n).ok S n0 (.slice (some ⟨w.heap.size, 0, none⟩) n n) (w.alloc (.cells vs 57)) :=
 ⟨_, vs, rfl, Box.new _ _ _, hn, hS, h⟩
theorem map_flat (l : List ByteArray) : (l.map Value.string).toArray.toList = l.flatMap Cel.cells := by
 show l.map Value.string = _
 induction l with
 | nil => rfl
 | cons x r ih => rw [List.map_cons, List.flatMap_cons, ih]; rfl
theorem Kd.lstOf {S n0 p : Nat} {w : World} {vs : Array Value} (hb : Box w p 9 vs) (l : List ByteArray) (n : Nat) (hv : vs = (l.map Value.string).toArray) (hn : l.length = n) (hS : p ≠ S) (hz : n0 ≤ p) (h10 : l.length ≤ 10) (hsz : ∀ x ∈ l, x.size ≤ 1000) : LstV S n0 (.slice (some ⟨p, 0, none⟩) n n) w := by
 subst hn
 exact ⟨_, l, _, rfl, Box.sa hb l (by rw [hv]; exact map_flat l), ⟨h10, Nat.le_refl _⟩, hsz, fun y hy => by cases hy; exact ⟨hz, hb.lt, hS⟩⟩
theorem Kd.cellNst {p k : Nat} {T : TypeId} {w : World} {vs : Array Value} (hb : Box w p T vs) (hk : k < vs.size) : w.cell? ⟨p, k, none⟩ = some (vs.getD k undef) := by
 rw [hb.cell k]
 simp [hk]
def kdR : Nat → Kd
 | 3 => .str ([(⟨#[]⟩ : ByteArray), ⟨#[114, 97]⟩, ⟨#[122, 122]⟩] : List ByteArray)
 | 4 => .txt
 | 6 => .ints ([0, 5, 10001] : List Int)
 | 7 => .num (0) 10001
 | _ => .any
def cstR (m : Nat) : Int := if m = 4 then 1 else if m = 7 then 1 else 0
def kdS : Nat → Kd
 | 3 => .str ([(⟨#[]⟩ : ByteArray), ⟨#[115, 97]⟩, ⟨#[122, 122]⟩] : List ByteArray)
 | 4 => .txt
 | 6 => .ints ([-1, 5, 5761440] : List Int)
 | 7 => .num (-1) 5761440
 | 9 => .ints ([0, 5, 1441] : List Int)
 | 10 => .num (0) 1441
 | _ => .any
def cstS (m : Nat) : Int := if m = 4 then 1 else if m = 7 then 1 else if m = 10 then 1 else 0
def kdT : Nat → Kd
 | 3 => .str ([(⟨#[]⟩ : ByteArray), ⟨#[112, 97]⟩, ⟨#[122, 122]⟩] : List ByteArray)
 | 4 => .txt
 | 5 => .str ([⟨#[97, 110, 110]⟩] : List ByteArray)
 | 6 => .str ([⟨#[98, 111]⟩, ⟨#[97, 110, 110]⟩] : List ByteArray)
 | 7 => .str ([(⟨#[]⟩ : ByteArray)] : List ByteArray)
 | 8 => .nst 4
 | 10 => .idx 4
 | 11 => .adr
 | 12 => .lst
 | 13 => .str ([⟨#[98]⟩, ⟨#[97]⟩] : List ByteArray)
 | 14 => .nst 2
 | 16 => .idx 2
 | 17 => .adr
 | 18 => .lst
 | 20 => .ints ([0, 5] : List Int)
 | 21 => .num (0) 5
 | _ => .any
def cstT (m : Nat) : Int := if m = 4 then 1 else if m = 10 then 1 else if m = 16 then 1 else if m = 21 then 1 else 0
def kdW : Nat → Kd
 | 3 => .str ([(⟨#[]⟩ : ByteArray), ⟨#[97, 110, 110]⟩, ⟨#[122, 101, 100]⟩] : List ByteArray)
 | 4 => .txt
 | 5 => .str ([⟨#[110, 111]⟩] : List ByteArray)
 | 6 => .str ([⟨#[112, 97]⟩, ⟨#[112, 97]⟩] : List ByteArray)
 | 7 => .nst 3
 | 9 => .idx 3
 | 10 => .adr
 | 11 => .lst
 | _ => .any
def cstW (m : Nat) : Int := if m = 4 then 1 else if m = 9 then 1 else 0
def kdB : Nat → Kd
 | 3 => .str ([(⟨#[]⟩ : ByteArray), ⟨#[97, 97]⟩, ⟨#[122, 101, 100]⟩] : List ByteArray)
 | 4 => .txt
 | 6 => .str ([⟨#[115, 97]⟩, ⟨#[110, 111]⟩] : List ByteArray)
 | 7 => .txt
 | _ => .any
def cstB (m : Nat) : Int := if m = 4 then 1 else if m = 7 then 1 else 0
theorem Stp.thenKp {S : Nat} {a b c : World} {X : Nat → Prop} (h : Stp S a b) (k : Kp X b c) (hX : ∀ j, X j → j = S ∨ a.heap.size ≤ j) : Stp S a c :=
 ⟨k.os.trans h.os, k.tape.trans h.tape, k.output.trans h.output, Nat.le_trans h.size k.size, fun i hi hs => (k.block i (Nat.lt_of_lt_of_le hi h.size) (fun hx => (hX i hx).elim hs (fun e => by omega))).trans (h.block i hi hs)⟩
/-- The grid in the maker's variable gb. -/
def MidG (S : Nat) (B : Int) (w : World) (gb T : Nat) (wx : World) : Prop := ∃ vr vs vt vw vb lr ls lt lw lb, GW (w.heap.size + 1) gb vr vs vt vw vb lr ls lt lw lb wx ∧ (lr.length ≤ 21 ∧ ls.length ≤ 21 ∧ lt.length ≤ T ∧ lw.length ≤ 21 ∧ lb.length ≤ 21) ∧ (∀ x ∈ lr, RomOk x) ∧ (∀ x ∈ ls, SltOk x) ∧ (∀ x ∈ lt, TlkOk x) ∧ (∀ x ∈ lw, WshOk x) ∧ (∀ x ∈ lb, BanOk x) ∧
 Box wx w.heap.size 32 #[.slice none 0 0, .slice none 0 0, .slice none 0 0, .slice none 0 0, .slice none 0 0] ∧ Stp S w wx ∧ Strm S B wx
set_option maxRecDepth 100000 in
set_option maxHeartbeats 16000000 in
theorem gridV_any (S : Nat) (B : Int) (nt nr ns : Nat) (w : World) (hs : Strm S B w) (hB : B ≤ 999800000) (h1 : nt ≤ 19) (h2 : nr ≤ 19) (h3 : ns ≤ 19) :
  Calls Tryz.prog 5 #[.pointer (some ⟨S, 0, none⟩), .int .i64 (nt : Nat), .int .i64 (nr : Nat), .int .i64 (ns : Nat)] w (fun e w' => ∃ gb vr vs vt vw vb lr ls lt lw lb, e = .returned (.agg #[vr, vs, vt, vw, vb]) ∧ GW w.heap.size gb vr vs vt vw vb lr ls lt lw lb w' ∧
   (lr.length ≤ 21 ∧ ls.length ≤ 21 ∧ lt.length ≤ nt + 1 ∧ lw.length ≤ 21 ∧ lb.length ≤ 21) ∧ (∀ x ∈ lr, RomOk x) ∧ (∀ x ∈ ls, SltOk x) ∧ (∀ x ∈ lt, TlkOk x) ∧ (∀ x ∈ lw, WshOk x) ∧ (∀ x ∈ lb, BanOk x) ∧ Stp S w w' ∧ Strm S (B + 2100) w') := by
 have hSl := hs.lt
 have hw1 : IntKind.i64.wrap ((nt : Int) + 1) = (nt : Int) + 1 := IntWalk.i64_in _ (by omega)
 have hw2 : IntKind.i64.wrap ((nr : Int) + 1) = (nr : Int) + 1 := IntWalk.i64_in _ (by omega)
 have hw3 : IntKind.i64.wrap ((ns : Int) + 1) = (ns : Int) + 1 := IntWalk.i64_in _ (by omega)
 have hR0 := Box.new w 32 #[.slice none 0 0, .slice none 0 0, .slice none 0 0, .slice none 0 0, .slice none 0 0]
 have hst0 := (Stp.refl S w).alloc (.cells #[.slice none 0 0, .slice none 0 0, .slice none 0 0, .slice none 0 0, .slice none 0 0] 32)
 have hs0 := hs.alloc (.cells #[.slice none 0 0, .slice none 0 0, .slice none 0 0, .slice none 0 0, .slice none 0 0] 32)
 have hz0 : w.heap.size + 1 ≤ (w.alloc (.cells #[.slice none 0 0, .slice none 0 0, .slice none 0 0, .slice none 0 0, .slice none 0 0] 32)).heap.size := by simp
 clear hs
 go_enter Tryz.func5, Tryz.ntmps5
 go_wp2_with fail
 refine (next_any S B _ _ hs0 (by omega) (by omega) (by omega)).mono ?_
 rintro e w1 ⟨n1, ⟨hn1, hn1b⟩, rfl, h4, s4⟩
 obtain ⟨m1, rfl⟩ := Int.eq_ofNat_of_zero_le hn1
 have hst1 := hst0.trans h4
 have hR1 := hR0.stp h4 (by omega)
 have hz1 := h4.size
 clear h4 hst0 hR0 hs0
 go_wp2_with fail
 refine (next_any S (B + 1) _ _ s4 (by omega) (by omega) (by omega)).mono ?_
 rintro e w2 ⟨n2, ⟨hn2, hn2b⟩, rfl, h5, s5⟩
 obtain ⟨m2, rfl⟩ := Int.eq_ofNat_of_zero_le hn2
 have hst2 := hst1.trans h5
 have hR2 := hR1.stp h5 (by omega)
 have hz2 := h5.size
 clear h5 s4 hst1 hR1
 go_wp2_with fail
 refine (next_any S (B + 1 + 1) _ _ s5 (by omega) (by omega) (by omega)).mono ?_
 rintro e w3 ⟨n3, ⟨hn3, hn3b⟩, rfl, h6, s6⟩
 obtain ⟨m3, rfl⟩ := Int.eq_ofNat_of_zero_le hn3
 have hst3 := hst2.trans h6
 have hR3 := hR2.stp h6 (by omega)
 have hz3 := h6.size
 clear h6 s5 hst2 hR2
 go_wp2_with fail
 refine (rightGrid_any S (B + 1 + 1 + 1) m1 m2 m3 _ s6 (by omega) (by omega) (by omega) (by omega)).mono ?_
 rintro e w4 ⟨gb, vr, vs, vt, vw, vb, lr, ls, lt, lw, lb, rfl, hg, hlen, hro, hso, hto, hwo, hbo, h7, s7⟩
 have hst4 := hst3.trans h7
 have hR4 := hR3.stp h7 (by omega)
 have hz4 := h7.size
 have hg4 := (hg.mono (base2 := w.heap.size + 1) (by omega)).move 32 rfl
 have hst5 := hst4.alloc (.cells #[vr, vs, vt, vw, vb] 32)
 have hR5 := hR4.alloc (.cells #[vr, vs, vt, vw, vb] 32)
 have s8 := s7.alloc (.cells #[vr, vs, vt, vw, vb] 32)
 obtain ⟨ar, cr, rfl, -, -, -⟩ := hg.fr.form
 obtain ⟨as9, cs, rfl, -, -, -⟩ := hg.fs.form
 obtain ⟨at_, ct, rfl, -, -, -⟩ := hg.ft.form
 obtain ⟨aw, cw, rfl, -, -, -⟩ := hg.fw.form
 obtain ⟨ab, cb, rfl, -, -, -⟩ := hg.fb.form
 clear h7 s6 hst3 hR3 hg hst4 hR4 s7
 have Hlen := Lib.hid hlen
 have hro : Hid (∀ x ∈ lr, RomOk x) := hro
 have hso : Hid (∀ x ∈ ls, SltOk x) := hso
 have hto : Hid (∀ x ∈ lt, TlkOk x) := hto
 have hwo : Hid (∀ x ∈ lw, WshOk x) := hwo
 have hbo : Hid (∀ x ∈ lb, BanOk x) := hbo
 clear hlen
 go_wp2_with fail
 have hgbl : w.heap.size < w4.heap.size := by omega
 generalize w4.alloc (.cells #[.slice ar lr.length cr, .slice as9 ls.length cs, .slice at_ lt.length ct, .slice aw lw.length cw, .slice ab lb.length cb] 32) = w5 at *
 generalize w4.heap.size = gb at *
 generalize (Value.slice ar lr.length cr) = vr at *
 generalize (Value.slice as9 ls.length cs) = vs at *
 generalize (Value.slice at_ lt.length ct) = vt at *
 generalize (Value.slice aw lw.length cw) = vw at *
 generalize (Value.slice ab lb.length cb) = vb at *
 refine (flip_any S _ 15 _ s8 (by omega) (by omega) (by omega)).mono ?_
 rintro e w6 ⟨fl, rfl, h9, s9⟩
 have hg6 := hg4.stp h9 (by omega) (by omega)
 have hR6 := hR5.stp h9 (by omega)
 have hst6 := hst5.trans h9
 clear h9 s8 hg4 hR5 hst5 hw1 hw2 hw3
 go_upto_if 25 with (fail)
 go_cut [] (fun wx => MidG S (B + 2100) w gb (nt + 1) wx)
 case first =>
  obtain ⟨hl1, hl2, hl3, hl4, hl5⟩ := Hlen.out
  cases fl
  ·
   go_wp2_with fail
   go_meet
   exact ⟨_, _, _, _, _, _, _, _, _, _, hg6, ⟨by omega, by omega, by omega, by omega, by omega⟩, hro.out, hso.out, hto.out, hwo.out, hbo.out, hR6, hst6, s9.mono (by omega)⟩
  ·
   go_wp2_with fail
   refine (next_any S _ 6 _ s9 (by omega) (by omega) (by omega)).mono ?_
   rintro e W ⟨z, ⟨hz, hzb⟩, rfl, h10, hsW⟩
   have hgW := hg6.stp h10 (by omega) (by omega)
   have hRW := hR6.stp h10 (by omega)
   have hstW := hst6.trans h10
   have hgbW : gb < W.heap.size := hgW.box.lt
   have HgW := Lib.hid hgW
   obtain ⟨B2, hB2⟩ : ∃ B2 : Int, B2 = B + 1 + 1 + 1 + 2000 + 1 + 1 := ⟨_, rfl⟩
   rw [← hB2] at hsW
   clear h10 hg6 hR6 hst6 s9
   obtain rfl | rfl | rfl | rfl | rfl | rfl : z = 0 ∨ z = 1 ∨ z = 2 ∨ z = 3 ∨ z = 4 ∨ z = 5 := by omega
   ·
    have hc0 := hgW.box.cell 0
    simp at hc0
    clear hgW
    go_upto_region 6 with (fail)
    refine wp_regionF (S := (fun wx => wx.cell? ⟨gb, 0, none⟩ = some vr)) 12 (by kernel_rfl) ?hS (fun hHeld => ?_)
    case hS => exact hc0
    refine rtakeF (i := 0) (d := (some 33)) (v := ?_) (n := 40) rfl (by kernel_rfl) (by kernel_rfl) (by kernel_rfl) (by kernel_rfl) (by kernel_rfl) (by kernel_rfl) (fun _ _ _ h => h) (by kernel_rfl) (by assumption) ?_ ?_
    rotate_left 1
    ·
     (intro wI hSI; (try dsimp only at hSI); go_simp; (try with_reducible rfl))
    simp only [Act.put, lsetA, lsetZ, lsetS]
    refine rtakeF (i := 1) (d := (some 34)) (v := ?_) (n := 40) rfl (by kernel_rfl) (by kernel_rfl) (by kernel_rfl) (by kernel_rfl) (by kernel_rfl) (by kernel_rfl) (fun _ _ _ h => h) (by kernel_rfl) (by assumption) ?_ ?_
    rotate_left 1
    ·
     (intro wI hSI; (try dsimp only at hSI); go_simp; (try with_reducible rfl))
    simp only [Act.put, lsetA, lsetZ, lsetS]
    refine rtakeF (i := 2) (d := (some 35)) (v := ?_) (n := 40) rfl (by kernel_rfl) (by kernel_rfl) (by kernel_rfl) (by kernel_rfl) (by kernel_rfl) (by kernel_rfl) (fun _ _ _ h => h) (by kernel_rfl) (by assumption) ?_ ?_
    rotate_left 1
    ·
     (intro wI hSI; (try dsimp only at hSI); go_simp; (try with_reducible rfl))
    simp only [Act.put, lsetA, lsetZ, lsetS]
    refine rtakeF (i := 5) (d := (some 38)) (v := ?_) (n := 40) rfl (by kernel_rfl) (by kernel_rfl) (by kernel_rfl) (by kernel_rfl) (by kernel_rfl) (by kernel_rfl) (fun _ _ _ h => h) (by kernel_rfl) (by assumption) ?_ ?_
    rotate_left 1
    ·
     (intro wI hSI; (try dsimp only at hSI); go_simp; (try with_reducible rfl))
    simp only [Act.put, lsetA, lsetZ, lsetS]
    show wpAnyF _ _ _ _ _ _ (5 + ([3, 4, 6, 7] : List Nat).length) _ _ _
    refine wpAnyF_phaseB [3, 4, 6, 7] (fun m => m + 33) cstR (fun m v wx => (kdR m).ok S W.heap.size v wx) (fun t wx => Strm S (B2 + t) wx ∧ Stp S W wx) (Stp S) _ _ 40 5 _ (by decide) (by intro i _ j _ h; omega) (fun i hi => by have h : i ≤ 7 := (by simp at hi; omega); show i + 33 < 123; omega) (by kernel_rfl) (by kernel_rfl) (by kernel_rfl) (by kernel_rfl) (fun j v w w' hx h => h.stp hx) (fun m => by unfold cstR; repeat' split <;> omega) ?hop ?hend (by kernel_rfl) ⟨hsW.drew.mono (by omega), (Stp.refl _ _).drew⟩ hHeld
    case hop =>
     intro i hi o ho a wx t K' htc hSw hG hfr hp hK
     have hSx := hG.1.lt
     have htc2 : t + cstR i ≤ 2 := htc
     have hcc : ∀ wy, Stp S wx wy → wy.cell? ⟨gb, 0, none⟩ = some vr := fun wy h => cellKp (Kp.of_stp (X := fun j => j = S) h rfl) (fun e => by omega) hSw
     have Hcc := Lib.hid hcc
     have Hfr := Lib.hid hfr
     have Hp := Lib.hid hp
     have hnz : W.heap.size ≤ wx.heap.size := hG.2.size
     clear hfr hp hcc htc
     simp only [List.mem_cons, List.not_mem_nil, or_false] at hi
     rcases hi with rfl | rfl | rfl | rfl
     all_goals obtain rfl := Option.some.inj ho
     all_goals clear ho
     ·
      go_simp
      exact hK.out _ _ ((Stp.refl S wx).alloc _) (Hcc.out _ ((Stp.refl S wx).alloc _)) (Kd.newStr S W.heap.size wx ([(⟨#[]⟩ : ByteArray), ⟨#[114, 97]⟩, ⟨#[122, 122]⟩] : List ByteArray) 3 _ rfl rfl hnz (by omega)) ⟨(hG.1.alloc _).mono (by have e : cstR 3 = 0 := rfl; omega), hG.2.alloc _⟩
     ·
      obtain ⟨p, hv, hbx, hpS, -⟩ := Hp.out 3 (by decide) (by kernel_rfl)
      have e1 : a.tmps.getD 35 undef = .pointer (some ⟨S, 0, none⟩) := (Hfr.out 35 (by decide)).trans rfl
      have e1' := e1
      simp only [Array.getD_eq_getD_getElem?] at e1'
      have e2 : a.tmps.getD 36 undef = .slice (some ⟨p, 0, none⟩) 3 3 := hv
      have e2' := e2
      simp only [Array.getD_eq_getD_getElem?] at e2'
      go_simp
      go_at_call 22
      refine (one_any S (B2 + t) p 3 3 9 _ _ hG.1 (by have e : cstR 4 = 1 := rfl; omega) hbx hpS rfl (by omega) (by omega) (by simp; decide)).mono ?_
      rintro e w2 ⟨x, hx, rfl, h4, s4⟩
      exact hK.out _ _ h4 (Hcc.out _ h4) ⟨x, rfl, hx⟩ ⟨s4.mono (by have e : cstR 4 = 1 := rfl; omega), hG.2.trans h4⟩
     ·
      go_simp
      exact hK.out _ _ ((Stp.refl S wx).alloc _) (Hcc.out _ ((Stp.refl S wx).alloc _)) (Kd.newInt S W.heap.size wx ([0, 5, 10001] : List Int) 3 _ rfl rfl hnz (by omega)) ⟨(hG.1.alloc _).mono (by have e : cstR 6 = 0 := rfl; omega), hG.2.alloc _⟩
     ·
      obtain ⟨p, hv, hbx, hpS⟩ := Hp.out 6 (by decide) (by kernel_rfl)
      have e1 : a.tmps.getD 38 undef = .pointer (some ⟨S, 0, none⟩) := (Hfr.out 38 (by decide)).trans rfl
      have e1' := e1
      simp only [Array.getD_eq_getD_getElem?] at e1'
      have e2 : a.tmps.getD 39 undef = .slice (some ⟨p, 0, none⟩) 3 3 := hv
      have e2' := e2
      simp only [Array.getD_eq_getD_getElem?] at e2'
      go_simp
      go_at_call 16
      refine (pick_box S (B2 + t) p 3 3 ([0, 5, 10001] : List Int) wx hG.1 (by have e : cstR 7 = 1 := rfl; omega) hbx hpS (by decide) (by decide)).mono ?_
      rintro e w2 ⟨z, hz, rfl, h4, s4⟩
      have hzb : 0 ≤ z ∧ z ≤ 10001 := by simp at hz; omega
      exact hK.out _ _ h4 (Hcc.out _ h4) ⟨z, rfl, hzb.1, hzb.2⟩ ⟨s4.mono (by have e : cstR 7 = 1 := rfl; omega), hG.2.trans h4⟩
    case hend =>
     intro v wx hv hG hSw
     obtain ⟨p3, e3, -⟩ := hv 3 (by decide)
     obtain ⟨x4, e4, hx4⟩ := hv 4 (by decide)
     obtain ⟨p6, e6, -⟩ := hv 6 (by decide)
     obtain ⟨z7, e7, hz7a, hz7b⟩ := hv 7 (by decide)
     simp only [List.foldl, Act.put, List.setIfInBounds_toArray, Nat.reduceAdd, List.set_cons_zero, List.set_cons_succ, e3, e4, e6, e7]
     clear e3 e4 e6 e7 hv
     have hG1 := hG.1.mono (B' := B2 + 2) (by have e : (([3, 4, 6, 7] : List Nat).map cstR).foldl (· + ·) 0 = 2 := rfl; omega)
     have hg3 := HgW.out.stp hG.2 (by omega) (by omega)
     have hR2 := hRW.stp hG.2 (by omega)
     have hst2 := hstW.trans hG.2
     have hzx : W.heap.size ≤ wx.heap.size := hG.2.size
     obtain ⟨tv, htv⟩ : ∃ tv : Rom, tv = (x4, z7) := ⟨_, rfl⟩
     have Hok : Hid (RomOk tv) := by rw [htv]; exact ⟨hx4, by show _ ≤ z7; omega, by show z7 ≤ _; omega⟩
     have Hce : Hid (Cel.cells tv = [.string x4, .int .i64 z7]) := by show _ = _; rw [htv]; rfl
     clear htv hG hHeld HgW hsW hRW hstW
     have hHeld := hSw
     refine rtakeF (i := 8) (d := (some 41)) (v := ?_) (n := 40) rfl (by kernel_rfl) (by kernel_rfl) (by kernel_rfl) (by kernel_rfl) (by kernel_rfl) (by kernel_rfl) (fun _ _ _ h => h) (by kernel_rfl) (by assumption) ?_ ?_
     rotate_left 1
     ·
      (intro wI hSI; (try dsimp only at hSI); go_simp; (try with_reducible rfl))
     simp only [Act.put, lsetA, lsetZ, lsetS]
     have hg4 := hg3.alloc (.cells #[.string x4, .int .i64 z7] 54)
     have hst3 := hst2.alloc (.cells #[.string x4, .int .i64 z7] 54)
     have hR3 := hR2.alloc (.cells #[.string x4, .int .i64 z7] 54)
     have s5 := hG1.alloc (.cells #[.string x4, .int .i64 z7] 54)
     clear hg3 hst2 hR2 hG1 hSw
     refine rcallF (i := 9) (d := (some 42)) (by kernel_rfl) rfl (by kernel_rfl) (fun K hK => ?_)
     go_simp
     refine hK.out _ _ (.inr ?hS) (fun hHeld0 => ?_)
     case hS => exact hg4.box.cell 0
     clear hK K
     have hHeld := hHeld0.resolve_left (by decide)
     simp only [Act.put, lsetA, lsetZ, lsetS]
     refine rcallF (i := 10) (d := (some 43)) (by kernel_rfl) rfl (by kernel_rfl) (fun K hK => ?_)
     refine step_append_lie (α := Rom) (by rfl) _ _ 26 (by rfl) 54 24 (.agg #[.string ⟨#[]⟩, .int .i64 0]) Tryz.underlying26 infoRom (by rfl) vr lr (by rfl) hg4.fr tv _ (by rfl) (by rw [Hce.out]; exact Box.new _ _ _) (by omega) (by omega) (by simp; omega) ?_; intro g9 cap9 w9 hown9 hg9 hat9; have hb9 := hg4.box.kp ((Kp.refl (fun j => vr.ownBlock = some j) _).grown hg9 (fun j hj => .inl hj)) hg4.xr; have hc9 := hb9.cell 0; have hf9 := hb9.frozen 0; simp at hc9
     refine hK.out _ _ (.inr ?hS) (fun hHeld0 => ?_)
     case hS => exact hc9
     clear hK K
     have hHeld := hHeld0.resolve_left (by decide)
     simp only [Act.put, lsetA, lsetZ, lsetS]
     refine rtakeF (i := 11) (d := (some 44)) (v := ?_) (n := 40) rfl (by kernel_rfl) (by kernel_rfl) (by kernel_rfl) (by kernel_rfl) (by kernel_rfl) (by kernel_rfl) (fun _ _ _ h => h) (by kernel_rfl) (by assumption) ?_ ?_
     rotate_left 1
     ·
      (intro wI hSI; (try dsimp only at hSI); go_simp; (try with_reducible rfl))
     simp only [Act.put, lsetA, lsetZ, lsetS]
     refine rcallF (i := 12) (d := none) (by kernel_rfl) rfl (by kernel_rfl) (fun K hK => ?_)
     go_simp
     refine hK.out undef _ (.inl rfl) (fun _ => ?_)
     clear hK K
     simp only [Act.put, lsetA, lsetZ, lsetS]
     refine wpAnyF_done (by kernel_rfl) ?_ _
     have hl9 := hg4.fr.lt
     have hg10 := hg4.putr hg9 hown9 (atNew hat9)
     have hst4 : Stp S w (w9.setCell ⟨gb, 0, none⟩ (.slice (some ⟨g9, 0, none⟩) (lr.length + 1) cap9)) := (hst3.grown hg9 (fun b hb => .inr (by have := (hl9 b hb).1; omega))).setCell (.inr (by show _ ≤ gb; omega)) _
     have hR4 := ((hR3.grown hg9 (fun e => by have := (hl9 _ e.symm).1; omega)).setOther (p := ⟨gb, 0, none⟩) (by show gb ≠ w.heap.size; omega) (.slice (some ⟨g9, 0, none⟩) (lr.length + 1) cap9))
     have s6 := ((s5.grown hg9 (fun b hb => by have := (hl9 b hb).1; omega)).setOther (p := ⟨gb, 0, none⟩) (by show S < gb; omega) (.slice (some ⟨g9, 0, none⟩) (lr.length + 1) cap9))
     clear hHeld hg4 hst3 hR3 s5 hg9 hown9 hat9 hb9 hc9 hf9 hl9 Hce
     generalize w9.setCell ⟨gb, 0, none⟩ (.slice (some ⟨g9, 0, none⟩) (lr.length + 1) cap9) = W9 at *
     go_wp2_with fail
     go_meet
     exact ⟨_, vs, vt, vw, vb, lr ++ [tv], ls, lt, lw, lb, hg10, ⟨by rw [List.length_append]; show _ + 1 ≤ _; omega, by omega, by omega, by omega, by omega⟩, all_snoc hro.out Hok.out, hso.out, hto.out, hwo.out, hbo.out, hR4, hst4, s6.mono (by omega)⟩
   ·
    have hc0 := hgW.box.cell 1
    simp at hc0
    clear hgW
    go_upto_region 8 with (fail)
    refine wp_regionF (S := (fun wx => wx.cell? ⟨gb, 1, none⟩ = some vs)) 15 (by kernel_rfl) ?hS (fun hHeld => ?_)
    case hS => exact hc0
    refine rtakeF (i := 0) (d := (some 47)) (v := ?_) (n := 40) rfl (by kernel_rfl) (by kernel_rfl) (by kernel_rfl) (by kernel_rfl) (by kernel_rfl) (by kernel_rfl) (fun _ _ _ h => h) (by kernel_rfl) (by assumption) ?_ ?_
    rotate_left 1
    ·
     (intro wI hSI; (try dsimp only at hSI); go_simp; (try with_reducible rfl))
    simp only [Act.put, lsetA, lsetZ, lsetS]
    refine rtakeF (i := 1) (d := (some 48)) (v := ?_) (n := 40) rfl (by kernel_rfl) (by kernel_rfl) (by kernel_rfl) (by kernel_rfl) (by kernel_rfl) (by kernel_rfl) (fun _ _ _ h => h) (by kernel_rfl) (by assumption) ?_ ?_
    rotate_left 1
    ·
     (intro wI hSI; (try dsimp only at hSI); go_simp; (try with_reducible rfl))
    simp only [Act.put, lsetA, lsetZ, lsetS]
    refine rtakeF (i := 2) (d := (some 49)) (v := ?_) (n := 40) rfl (by kernel_rfl) (by kernel_rfl) (by kernel_rfl) (by kernel_rfl) (by kernel_rfl) (by kernel_rfl) (fun _ _ _ h => h) (by kernel_rfl) (by assumption) ?_ ?_
    rotate_left 1
    ·
     (intro wI hSI; (try dsimp only at hSI); go_simp; (try with_reducible rfl))
    simp only [Act.put, lsetA, lsetZ, lsetS]
    refine rtakeF (i := 5) (d := (some 52)) (v := ?_) (n := 40) rfl (by kernel_rfl) (by kernel_rfl) (by kernel_rfl) (by kernel_rfl) (by kernel_rfl) (by kernel_rfl) (fun _ _ _ h => h) (by kernel_rfl) (by assumption) ?_ ?_
    rotate_left 1
    ·
     (intro wI hSI; (try dsimp only at hSI); go_simp; (try with_reducible rfl))
    simp only [Act.put, lsetA, lsetZ, lsetS]
    refine rtakeF (i := 8) (d := (some 55)) (v := ?_) (n := 40) rfl (by kernel_rfl) (by kernel_rfl) (by kernel_rfl) (by kernel_rfl) (by kernel_rfl) (by kernel_rfl) (fun _ _ _ h => h) (by kernel_rfl) (by assumption) ?_ ?_
    rotate_left 1
    ·
     (intro wI hSI; (try dsimp only at hSI); go_simp; (try with_reducible rfl))
    simp only [Act.put, lsetA, lsetZ, lsetS]
    show wpAnyF _ _ _ _ _ _ (5 + ([3, 4, 6, 7, 9, 10] : List Nat).length) _ _ _
    refine wpAnyF_phaseB [3, 4, 6, 7, 9, 10] (fun m => m + 47) cstS (fun m v wx => (kdS m).ok S W.heap.size v wx) (fun t wx => Strm S (B2 + t) wx ∧ Stp S W wx) (Stp S) _ _ 40 5 _ (by decide) (by intro i _ j _ h; omega) (fun i hi => by have h : i ≤ 10 := (by simp at hi; omega); show i + 47 < 123; omega) (by kernel_rfl) (by kernel_rfl) (by kernel_rfl) (by kernel_rfl) (fun j v w w' hx h => h.stp hx) (fun m => by unfold cstS; repeat' split <;> omega) ?hop ?hend (by kernel_rfl) ⟨hsW.drew.mono (by omega), (Stp.refl _ _).drew⟩ hHeld
    case hop =>
     intro i hi o ho a wx t K' htc hSw hG hfr hp hK
     have hSx := hG.1.lt
     have htc2 : t + cstS i ≤ 3 := htc
     have hcc : ∀ wy, Stp S wx wy → wy.cell? ⟨gb, 1, none⟩ = some vs := fun wy h => cellKp (Kp.of_stp (X := fun j => j = S) h rfl) (fun e => by omega) hSw
     have Hcc := Lib.hid hcc
     have Hfr := Lib.hid hfr
     have Hp := Lib.hid hp
     have hnz : W.heap.size ≤ wx.heap.size := hG.2.size
     clear hfr hp hcc htc
     simp only [List.mem_cons, List.not_mem_nil, or_false] at hi
     rcases hi with rfl | rfl | rfl | rfl | rfl | rfl
     all_goals obtain rfl := Option.some.inj ho
     all_goals clear ho
     ·
      go_simp
      exact hK.out _ _ ((Stp.refl S wx).alloc _) (Hcc.out _ ((Stp.refl S wx).alloc _)) (Kd.newStr S W.heap.size wx ([(⟨#[]⟩ : ByteArray), ⟨#[115, 97]⟩, ⟨#[122, 122]⟩] : List ByteArray) 3 _ rfl rfl hnz (by omega)) ⟨(hG.1.alloc _).mono (by have e : cstS 3 = 0 := rfl; omega), hG.2.alloc _⟩
     ·
      obtain ⟨p, hv, hbx, hpS, -⟩ := Hp.out 3 (by decide) (by kernel_rfl)
      have e1 : a.tmps.getD 49 undef = .pointer (some ⟨S, 0, none⟩) := (Hfr.out 49 (by decide)).trans rfl
      have e1' := e1
      simp only [Array.getD_eq_getD_getElem?] at e1'
      have e2 : a.tmps.getD 50 undef = .slice (some ⟨p, 0, none⟩) 3 3 := hv
      have e2' := e2
      simp only [Array.getD_eq_getD_getElem?] at e2'
      go_simp
      go_at_call 22
      refine (one_any S (B2 + t) p 3 3 9 _ _ hG.1 (by have e : cstS 4 = 1 := rfl; omega) hbx hpS rfl (by omega) (by omega) (by simp; decide)).mono ?_
      rintro e w2 ⟨x, hx, rfl, h4, s4⟩
      exact hK.out _ _ h4 (Hcc.out _ h4) ⟨x, rfl, hx⟩ ⟨s4.mono (by have e : cstS 4 = 1 := rfl; omega), hG.2.trans h4⟩
     ·
      go_simp
      exact hK.out _ _ ((Stp.refl S wx).alloc _) (Hcc.out _ ((Stp.refl S wx).alloc _)) (Kd.newInt S W.heap.size wx ([-1, 5, 5761440] : List Int) 3 _ rfl rfl hnz (by omega)) ⟨(hG.1.alloc _).mono (by have e : cstS 6 = 0 := rfl; omega), hG.2.alloc _⟩
     ·
      obtain ⟨p, hv, hbx, hpS⟩ := Hp.out 6 (by decide) (by kernel_rfl)
      have e1 : a.tmps.getD 52 undef = .pointer (some ⟨S, 0, none⟩) := (Hfr.out 52 (by decide)).trans rfl
      have e1' := e1
      simp only [Array.getD_eq_getD_getElem?] at e1'
      have e2 : a.tmps.getD 53 undef = .slice (some ⟨p, 0, none⟩) 3 3 := hv
      have e2' := e2
      simp only [Array.getD_eq_getD_getElem?] at e2'
      go_simp
      go_at_call 16
      refine (pick_box S (B2 + t) p 3 3 ([-1, 5, 5761440] : List Int) wx hG.1 (by have e : cstS 7 = 1 := rfl; omega) hbx hpS (by decide) (by decide)).mono ?_
      rintro e w2 ⟨z, hz, rfl, h4, s4⟩
      have hzb : -1 ≤ z ∧ z ≤ 5761440 := by simp at hz; omega
      exact hK.out _ _ h4 (Hcc.out _ h4) ⟨z, rfl, hzb.1, hzb.2⟩ ⟨s4.mono (by have e : cstS 7 = 1 := rfl; omega), hG.2.trans h4⟩
     ·
      go_simp
      exact hK.out _ _ ((Stp.refl S wx).alloc _) (Hcc.out _ ((Stp.refl S wx).alloc _)) (Kd.newInt S W.heap.size wx ([0, 5, 1441] : List Int) 3 _ rfl rfl hnz (by omega)) ⟨(hG.1.alloc _).mono (by have e : cstS 9 = 0 := rfl; omega), hG.2.alloc _⟩
     ·
      obtain ⟨p, hv, hbx, hpS⟩ := Hp.out 9 (by decide) (by kernel_rfl)
      have e1 : a.tmps.getD 55 undef = .pointer (some ⟨S, 0, none⟩) := (Hfr.out 55 (by decide)).trans rfl
      have e1' := e1
      simp only [Array.getD_eq_getD_getElem?] at e1'
      have e2 : a.tmps.getD 56 undef = .slice (some ⟨p, 0, none⟩) 3 3 := hv
      have e2' := e2
      simp only [Array.getD_eq_getD_getElem?] at e2'
      go_simp
      go_at_call 16
      refine (pick_box S (B2 + t) p 3 3 ([0, 5, 1441] : List Int) wx hG.1 (by have e : cstS 10 = 1 := rfl; omega) hbx hpS (by decide) (by decide)).mono ?_
      rintro e w2 ⟨z, hz, rfl, h4, s4⟩
      have hzb : 0 ≤ z ∧ z ≤ 1441 := by simp at hz; omega
      exact hK.out _ _ h4 (Hcc.out _ h4) ⟨z, rfl, hzb.1, hzb.2⟩ ⟨s4.mono (by have e : cstS 10 = 1 := rfl; omega), hG.2.trans h4⟩
    case hend =>
     intro v wx hv hG hSw
     obtain ⟨p3, e3, -⟩ := hv 3 (by decide)
     obtain ⟨x4, e4, hx4⟩ := hv 4 (by decide)
     obtain ⟨p6, e6, -⟩ := hv 6 (by decide)
     obtain ⟨z7, e7, hz7a, hz7b⟩ := hv 7 (by decide)
     obtain ⟨p9, e9, -⟩ := hv 9 (by decide)
     obtain ⟨z10, e10, hz10a, hz10b⟩ := hv 10 (by decide)
     simp only [List.foldl, Act.put, List.setIfInBounds_toArray, Nat.reduceAdd, List.set_cons_zero, List.set_cons_succ, e3, e4, e6, e7, e9, e10]
     clear e3 e4 e6 e7 e9 e10 hv
     have hG1 := hG.1.mono (B' := B2 + 3) (by have e : (([3, 4, 6, 7, 9, 10] : List Nat).map cstS).foldl (· + ·) 0 = 3 := rfl; omega)
     have hg3 := HgW.out.stp hG.2 (by omega) (by omega)
     have hR2 := hRW.stp hG.2 (by omega)
     have hst2 := hstW.trans hG.2
     have hzx : W.heap.size ≤ wx.heap.size := hG.2.size
     obtain ⟨tv, htv⟩ : ∃ tv : Slt, tv = (x4, z7, z10) := ⟨_, rfl⟩
     have Hok : Hid (SltOk tv) := by rw [htv]; exact ⟨hx4, by show _ ≤ z7; omega, by show z7 ≤ _; omega, by show _ ≤ z10; omega, by show z10 ≤ _; omega⟩
     have Hce : Hid (Cel.cells tv = [.string x4, .int .i64 z7, .int .i64 z10]) := by show _ = _; rw [htv]; rfl
     clear htv hG hHeld HgW hsW hRW hstW
     have hHeld := hSw
     refine rtakeF (i := 11) (d := (some 58)) (v := ?_) (n := 40) rfl (by kernel_rfl) (by kernel_rfl) (by kernel_rfl) (by kernel_rfl) (by kernel_rfl) (by kernel_rfl) (fun _ _ _ h => h) (by kernel_rfl) (by assumption) ?_ ?_
     rotate_left 1
     ·
      (intro wI hSI; (try dsimp only at hSI); go_simp; (try with_reducible rfl))
     simp only [Act.put, lsetA, lsetZ, lsetS]
     have hg4 := hg3.alloc (.cells #[.string x4, .int .i64 z7, .int .i64 z10] 56)
     have hst3 := hst2.alloc (.cells #[.string x4, .int .i64 z7, .int .i64 z10] 56)
     have hR3 := hR2.alloc (.cells #[.string x4, .int .i64 z7, .int .i64 z10] 56)
     have s5 := hG1.alloc (.cells #[.string x4, .int .i64 z7, .int .i64 z10] 56)
     clear hg3 hst2 hR2 hG1 hSw
     refine rcallF (i := 12) (d := (some 59)) (by kernel_rfl) rfl (by kernel_rfl) (fun K hK => ?_)
     go_simp
     refine hK.out _ _ (.inr ?hS) (fun hHeld0 => ?_)
     case hS => exact hg4.box.cell 1
     clear hK K
     have hHeld := hHeld0.resolve_left (by decide)
     simp only [Act.put, lsetA, lsetZ, lsetS]
     refine rcallF (i := 13) (d := (some 60)) (by kernel_rfl) rfl (by kernel_rfl) (fun K hK => ?_)
     refine step_append_lie (α := Slt) (by rfl) _ _ 27 (by rfl) 56 32 (.agg #[.string ⟨#[]⟩, .int .i64 0, .int .i64 0]) Tryz.underlying27 infoSlt (by rfl) vs ls (by rfl) hg4.fs tv _ (by rfl) (by rw [Hce.out]; exact Box.new _ _ _) (by omega) (by omega) (by simp; omega) ?_; intro g9 cap9 w9 hown9 hg9 hat9; have hb9 := hg4.box.kp ((Kp.refl (fun j => vs.ownBlock = some j) _).grown hg9 (fun j hj => .inl hj)) hg4.xs; have hc9 := hb9.cell 1; have hf9 := hb9.frozen 1; simp at hc9
     refine hK.out _ _ (.inr ?hS) (fun hHeld0 => ?_)
     case hS => exact hc9
     clear hK K
     have hHeld := hHeld0.resolve_left (by decide)
     simp only [Act.put, lsetA, lsetZ, lsetS]
     refine rtakeF (i := 14) (d := (some 61)) (v := ?_) (n := 40) rfl (by kernel_rfl) (by kernel_rfl) (by kernel_rfl) (by kernel_rfl) (by kernel_rfl) (by kernel_rfl) (fun _ _ _ h => h) (by kernel_rfl) (by assumption) ?_ ?_
     rotate_left 1
     ·
      (intro wI hSI; (try dsimp only at hSI); go_simp; (try with_reducible rfl))
     simp only [Act.put, lsetA, lsetZ, lsetS]
     refine rcallF (i := 15) (d := none) (by kernel_rfl) rfl (by kernel_rfl) (fun K hK => ?_)
     go_simp
     refine hK.out undef _ (.inl rfl) (fun _ => ?_)
     clear hK K
     simp only [Act.put, lsetA, lsetZ, lsetS]
     refine wpAnyF_done (by kernel_rfl) ?_ _
     have hl9 := hg4.fs.lt
     have hg10 := hg4.puts hg9 hown9 (atNew hat9)
     have hst4 : Stp S w (w9.setCell ⟨gb, 1, none⟩ (.slice (some ⟨g9, 0, none⟩) (ls.length + 1) cap9)) := (hst3.grown hg9 (fun b hb => .inr (by have := (hl9 b hb).1; omega))).setCell (.inr (by show _ ≤ gb; omega)) _
     have hR4 := ((hR3.grown hg9 (fun e => by have := (hl9 _ e.symm).1; omega)).setOther (p := ⟨gb, 1, none⟩) (by show gb ≠ w.heap.size; omega) (.slice (some ⟨g9, 0, none⟩) (ls.length + 1) cap9))
     have s6 := ((s5.grown hg9 (fun b hb => by have := (hl9 b hb).1; omega)).setOther (p := ⟨gb, 1, none⟩) (by show S < gb; omega) (.slice (some ⟨g9, 0, none⟩) (ls.length + 1) cap9))
     clear hHeld hg4 hst3 hR3 s5 hg9 hown9 hat9 hb9 hc9 hf9 hl9 Hce
     generalize w9.setCell ⟨gb, 1, none⟩ (.slice (some ⟨g9, 0, none⟩) (ls.length + 1) cap9) = W9 at *
     go_wp2_with fail
     go_meet
     exact ⟨vr, _, vt, vw, vb, lr, ls ++ [tv], lt, lw, lb, hg10, ⟨by omega, by rw [List.length_append]; show _ + 1 ≤ _; omega, by omega, by omega, by omega⟩, hro.out, all_snoc hso.out Hok.out, hto.out, hwo.out, hbo.out, hR4, hst4, s6.mono (by omega)⟩
   ·
    have hc0 := hgW.box.cell 2
    simp at hc0
    clear hgW
    go_upto_region 10 with (fail)
    refine wp_regionF (S := (fun wx => wx.cell? ⟨gb, 2, none⟩ = some vt)) 26 (by kernel_rfl) ?hS (fun hHeld => ?_)
    case hS => exact hc0
    refine rtakeF (i := 0) (d := (some 64)) (v := ?_) (n := 40) rfl (by kernel_rfl) (by kernel_rfl) (by kernel_rfl) (by kernel_rfl) (by kernel_rfl) (by kernel_rfl) (fun _ _ _ h => h) (by kernel_rfl) (by assumption) ?_ ?_
    rotate_left 1
    ·
     (intro wI hSI; (try dsimp only at hSI); go_simp; (try with_reducible rfl))
    simp only [Act.put, lsetA, lsetZ, lsetS]
    refine rtakeF (i := 1) (d := (some 65)) (v := ?_) (n := 40) rfl (by kernel_rfl) (by kernel_rfl) (by kernel_rfl) (by kernel_rfl) (by kernel_rfl) (by kernel_rfl) (fun _ _ _ h => h) (by kernel_rfl) (by assumption) ?_ ?_
    rotate_left 1
    ·
     (intro wI hSI; (try dsimp only at hSI); go_simp; (try with_reducible rfl))
    simp only [Act.put, lsetA, lsetZ, lsetS]
    refine rtakeF (i := 2) (d := (some 66)) (v := ?_) (n := 40) rfl (by kernel_rfl) (by kernel_rfl) (by kernel_rfl) (by kernel_rfl) (by kernel_rfl) (by kernel_rfl) (fun _ _ _ h => h) (by kernel_rfl) (by assumption) ?_ ?_
    rotate_left 1
    ·
     (intro wI hSI; (try dsimp only at hSI); go_simp; (try with_reducible rfl))
    simp only [Act.put, lsetA, lsetZ, lsetS]
    refine rtakeF (i := 9) (d := (some 73)) (v := ?_) (n := 40) rfl (by kernel_rfl) (by kernel_rfl) (by kernel_rfl) (by kernel_rfl) (by kernel_rfl) (by kernel_rfl) (fun _ _ _ h => h) (by kernel_rfl) (by assumption) ?_ ?_
    rotate_left 1
    ·
     (intro wI hSI; (try dsimp only at hSI); go_simp; (try with_reducible rfl))
    simp only [Act.put, lsetA, lsetZ, lsetS]
    refine rtakeF (i := 15) (d := (some 79)) (v := ?_) (n := 40) rfl (by kernel_rfl) (by kernel_rfl) (by kernel_rfl) (by kernel_rfl) (by kernel_rfl) (by kernel_rfl) (fun _ _ _ h => h) (by kernel_rfl) (by assumption) ?_ ?_
    rotate_left 1
    ·
     (intro wI hSI; (try dsimp only at hSI); go_simp; (try with_reducible rfl))
    simp only [Act.put, lsetA, lsetZ, lsetS]
    refine rtakeF (i := 19) (d := (some 83)) (v := ?_) (n := 40) rfl (by kernel_rfl) (by kernel_rfl) (by kernel_rfl) (by kernel_rfl) (by kernel_rfl) (by kernel_rfl) (fun _ _ _ h => h) (by kernel_rfl) (by assumption) ?_ ?_
    rotate_left 1
    ·
     (intro wI hSI; (try dsimp only at hSI); go_simp; (try with_reducible rfl))
    simp only [Act.put, lsetA, lsetZ, lsetS]
    show wpAnyF _ _ _ _ _ _ (5 + ([3, 4, 5, 6, 7, 8, 10, 11, 12, 13, 14, 16, 17, 18, 20, 21] : List Nat).length) _ _ _
    refine wpAnyF_phaseB [3, 4, 5, 6, 7, 8, 10, 11, 12, 13, 14, 16, 17, 18, 20, 21] (fun m => m + 64) cstT (fun m v wx => (kdT m).ok S W.heap.size v wx) (fun t wx => Strm S (B2 + t) wx ∧ Stp S W wx) (Stp S) _ _ 40 5 _ (by decide) (by intro i _ j _ h; omega) (fun i hi => by have h : i ≤ 21 := (by simp at hi; omega); show i + 64 < 123; omega) (by kernel_rfl) (by kernel_rfl) (by kernel_rfl) (by kernel_rfl) (fun j v w w' hx h => h.stp hx) (fun m => by unfold cstT; repeat' split <;> omega) ?hop ?hend (by kernel_rfl) ⟨hsW.drew.mono (by omega), (Stp.refl _ _).drew⟩ hHeld
    case hop =>
     intro i hi o ho a wx t K' htc hSw hG hfr hp hK
     have hSx := hG.1.lt
     have htc2 : t + cstT i ≤ 4 := htc
     have hcc : ∀ wy, Stp S wx wy → wy.cell? ⟨gb, 2, none⟩ = some vt := fun wy h => cellKp (Kp.of_stp (X := fun j => j = S) h rfl) (fun e => by omega) hSw
     have Hcc := Lib.hid hcc
     have Hfr := Lib.hid hfr
     have Hp := Lib.hid hp
     have hnz : W.heap.size ≤ wx.heap.size := hG.2.size
     clear hfr hp hcc htc
     simp only [List.mem_cons, List.not_mem_nil, or_false] at hi
     rcases hi with rfl | rfl | rfl | rfl | rfl | rfl | rfl | rfl | rfl | rfl | rfl | rfl | rfl | rfl | rfl | rfl
     all_goals obtain rfl := Option.some.inj ho
     all_goals clear ho
     ·
      go_simp
      exact hK.out _ _ ((Stp.refl S wx).alloc _) (Hcc.out _ ((Stp.refl S wx).alloc _)) (Kd.newStr S W.heap.size wx ([(⟨#[]⟩ : ByteArray), ⟨#[112, 97]⟩, ⟨#[122, 122]⟩] : List ByteArray) 3 _ rfl rfl hnz (by omega)) ⟨(hG.1.alloc _).mono (by have e : cstT 3 = 0 := rfl; omega), hG.2.alloc _⟩
     ·
      obtain ⟨p, hv, hbx, hpS, -⟩ := Hp.out 3 (by decide) (by kernel_rfl)
      have e1 : a.tmps.getD 66 undef = .pointer (some ⟨S, 0, none⟩) := (Hfr.out 66 (by decide)).trans rfl
      have e1' := e1
      simp only [Array.getD_eq_getD_getElem?] at e1'
      have e2 : a.tmps.getD 67 undef = .slice (some ⟨p, 0, none⟩) 3 3 := hv
      have e2' := e2
      simp only [Array.getD_eq_getD_getElem?] at e2'
      go_simp
      go_at_call 22
      refine (one_any S (B2 + t) p 3 3 9 _ _ hG.1 (by have e : cstT 4 = 1 := rfl; omega) hbx hpS rfl (by omega) (by omega) (by simp; decide)).mono ?_
      rintro e w2 ⟨x, hx, rfl, h4, s4⟩
      exact hK.out _ _ h4 (Hcc.out _ h4) ⟨x, rfl, hx⟩ ⟨s4.mono (by have e : cstT 4 = 1 := rfl; omega), hG.2.trans h4⟩
     ·
      go_simp
      exact hK.out _ _ ((Stp.refl S wx).alloc _) (Hcc.out _ ((Stp.refl S wx).alloc _)) (Kd.newStr S W.heap.size wx ([⟨#[97, 110, 110]⟩] : List ByteArray) 1 _ rfl rfl hnz (by omega)) ⟨(hG.1.alloc _).mono (by have e : cstT 5 = 0 := rfl; omega), hG.2.alloc _⟩
     ·
      go_simp
      exact hK.out _ _ ((Stp.refl S wx).alloc _) (Hcc.out _ ((Stp.refl S wx).alloc _)) (Kd.newStr S W.heap.size wx ([⟨#[98, 111]⟩, ⟨#[97, 110, 110]⟩] : List ByteArray) 2 _ rfl rfl hnz (by omega)) ⟨(hG.1.alloc _).mono (by have e : cstT 6 = 0 := rfl; omega), hG.2.alloc _⟩
     ·
      go_simp
      exact hK.out _ _ ((Stp.refl S wx).alloc _) (Hcc.out _ ((Stp.refl S wx).alloc _)) (Kd.newStr S W.heap.size wx ([(⟨#[]⟩ : ByteArray)] : List ByteArray) 1 _ rfl rfl hnz (by omega)) ⟨(hG.1.alloc _).mono (by have e : cstT 7 = 0 := rfl; omega), hG.2.alloc _⟩
     ·
      obtain ⟨p5, hv5, hbx5, hpS5, hpn5⟩ := Hp.out 5 (by decide) (by kernel_rfl)
      have e5 : a.tmps.getD 69 undef = .slice (some ⟨p5, 0, none⟩) 1 1 := hv5
      have e5' := e5
      simp only [Array.getD_eq_getD_getElem?] at e5'
      obtain ⟨p6, hv6, hbx6, hpS6, hpn6⟩ := Hp.out 6 (by decide) (by kernel_rfl)
      have e6 : a.tmps.getD 70 undef = .slice (some ⟨p6, 0, none⟩) 2 2 := hv6
      have e6' := e6
      simp only [Array.getD_eq_getD_getElem?] at e6'
      obtain ⟨p7, hv7, hbx7, hpS7, hpn7⟩ := Hp.out 7 (by decide) (by kernel_rfl)
      have e7 : a.tmps.getD 71 undef = .slice (some ⟨p7, 0, none⟩) 1 1 := hv7
      have e7' := e7
      simp only [Array.getD_eq_getD_getElem?] at e7'
      go_simp
      refine hK.out _ _ ((Stp.refl S wx).alloc _) (Hcc.out _ ((Stp.refl S wx).alloc _)) (Kd.newNst S W.heap.size wx 4 _ rfl (by omega) ?_) ⟨(hG.1.alloc _).mono (by have e : cstT 8 = 0 := rfl; omega), hG.2.alloc _⟩
      intro k hk
      obtain rfl | rfl | rfl | rfl : k = 0 ∨ k = 1 ∨ k = 2 ∨ k = 3 := by omega
      ·
       exact ⟨none, [], 0, rfl, .inl rfl, by decide, (fun x hx => by cases hx), (fun y hy => by cases hy)⟩
      ·
       exact Kd.lstOf (hbx5.alloc _) ([⟨#[97, 110, 110]⟩] : List ByteArray) 1 rfl rfl hpS5 hpn5 (by decide) (by decide)
      ·
       exact Kd.lstOf (hbx6.alloc _) ([⟨#[98, 111]⟩, ⟨#[97, 110, 110]⟩] : List ByteArray) 2 rfl rfl hpS6 hpn6 (by decide) (by decide)
      ·
       exact Kd.lstOf (hbx7.alloc _) ([(⟨#[]⟩ : ByteArray)] : List ByteArray) 1 rfl rfl hpS7 hpn7 (by decide) (by decide)
     ·
      have e1 : a.tmps.getD 73 undef = .pointer (some ⟨S, 0, none⟩) := (Hfr.out 73 (by decide)).trans rfl
      have e1' := e1
      simp only [Array.getD_eq_getD_getElem?] at e1'
      go_simp
      go_at_call 20
      refine (next_any S (B2 + t) 4 wx hG.1 (by have e : cstT 10 = 1 := rfl; omega) (by omega) (by omega)).mono ?_
      rintro e w2 ⟨z, ⟨hz1, hz2⟩, rfl, h4, s4⟩
      obtain ⟨zk, rfl⟩ := Int.eq_ofNat_of_zero_le hz1
      exact hK.out _ _ h4 (Hcc.out _ h4) ⟨zk, rfl, by omega⟩ ⟨s4.mono (by have e : cstT 10 = 1 := rfl; omega), hG.2.trans h4⟩
     ·
      obtain ⟨p, vs0, hv, hbx, hsz, hpS, hel⟩ := Hp.out 8 (by decide) (by kernel_rfl)
      obtain ⟨zk, hv2, hzk⟩ := Hp.out 10 (by decide) (by kernel_rfl)
      have hl := hel zk hzk
      have e1 : a.tmps.getD 72 undef = .slice (some ⟨p, 0, none⟩) 4 4 := hv
      have e1' := e1
      simp only [Array.getD_eq_getD_getElem?] at e1'
      have e2 : a.tmps.getD 74 undef = .int .i64 zk := hv2
      have e2' := e2
      simp only [Array.getD_eq_getD_getElem?] at e2'
      have hk1 : (0 : Int) ≤ (zk : Int) := by omega
      have hk2 : (zk : Int) < 4 := by omega
      go_simp
      exact hK.out _ _ (Stp.refl S wx) (Hcc.out _ (Stp.refl S wx)) ⟨p, zk, _, by simp, Kd.cellNst hbx (by omega), hpS, hl⟩ ⟨hG.1.mono (by have e : cstT 11 = 0 := rfl; omega), hG.2⟩
     ·
      obtain ⟨p, zk, u, hv, hcl, hpS, hl⟩ := Hp.out 11 (by decide) (by kernel_rfl)
      have e1 : a.tmps.getD 75 undef = .pointer (some ⟨p, zk, none⟩) := hv
      have e1' := e1
      simp only [Array.getD_eq_getD_getElem?] at e1'
      go_simp
      exact hK.out _ _ (Stp.refl S wx) (Hcc.out _ (Stp.refl S wx)) hl ⟨hG.1.mono (by have e : cstT 12 = 0 := rfl; omega), hG.2⟩
     ·
      go_simp
      exact hK.out _ _ ((Stp.refl S wx).alloc _) (Hcc.out _ ((Stp.refl S wx).alloc _)) (Kd.newStr S W.heap.size wx ([⟨#[98]⟩, ⟨#[97]⟩] : List ByteArray) 2 _ rfl rfl hnz (by omega)) ⟨(hG.1.alloc _).mono (by have e : cstT 13 = 0 := rfl; omega), hG.2.alloc _⟩
     ·
      obtain ⟨p13, hv13, hbx13, hpS13, hpn13⟩ := Hp.out 13 (by decide) (by kernel_rfl)
      have e13 : a.tmps.getD 77 undef = .slice (some ⟨p13, 0, none⟩) 2 2 := hv13
      have e13' := e13
      simp only [Array.getD_eq_getD_getElem?] at e13'
      go_simp
      refine hK.out _ _ ((Stp.refl S wx).alloc _) (Hcc.out _ ((Stp.refl S wx).alloc _)) (Kd.newNst S W.heap.size wx 2 _ rfl (by omega) ?_) ⟨(hG.1.alloc _).mono (by have e : cstT 14 = 0 := rfl; omega), hG.2.alloc _⟩
      intro k hk
      obtain rfl | rfl : k = 0 ∨ k = 1 := by omega
      ·
       exact ⟨none, [], 0, rfl, .inl rfl, by decide, (fun x hx => by cases hx), (fun y hy => by cases hy)⟩
      ·
       exact Kd.lstOf (hbx13.alloc _) ([⟨#[98]⟩, ⟨#[97]⟩] : List ByteArray) 2 rfl rfl hpS13 hpn13 (by decide) (by decide)
     ·
      have e1 : a.tmps.getD 79 undef = .pointer (some ⟨S, 0, none⟩) := (Hfr.out 79 (by decide)).trans rfl
      have e1' := e1
      simp only [Array.getD_eq_getD_getElem?] at e1'
      go_simp
      go_at_call 20
      refine (next_any S (B2 + t) 2 wx hG.1 (by have e : cstT 16 = 1 := rfl; omega) (by omega) (by omega)).mono ?_
      rintro e w2 ⟨z, ⟨hz1, hz2⟩, rfl, h4, s4⟩
      obtain ⟨zk, rfl⟩ := Int.eq_ofNat_of_zero_le hz1
      exact hK.out _ _ h4 (Hcc.out _ h4) ⟨zk, rfl, by omega⟩ ⟨s4.mono (by have e : cstT 16 = 1 := rfl; omega), hG.2.trans h4⟩
     ·
      obtain ⟨p, vs0, hv, hbx, hsz, hpS, hel⟩ := Hp.out 14 (by decide) (by kernel_rfl)
      obtain ⟨zk, hv2, hzk⟩ := Hp.out 16 (by decide) (by kernel_rfl)
      have hl := hel zk hzk
      have e1 : a.tmps.getD 78 undef = .slice (some ⟨p, 0, none⟩) 2 2 := hv
      have e1' := e1
      simp only [Array.getD_eq_getD_getElem?] at e1'
      have e2 : a.tmps.getD 80 undef = .int .i64 zk := hv2
      have e2' := e2
      simp only [Array.getD_eq_getD_getElem?] at e2'
      have hk1 : (0 : Int) ≤ (zk : Int) := by omega
      have hk2 : (zk : Int) < 2 := by omega
      go_simp
      exact hK.out _ _ (Stp.refl S wx) (Hcc.out _ (Stp.refl S wx)) ⟨p, zk, _, by simp, Kd.cellNst hbx (by omega), hpS, hl⟩ ⟨hG.1.mono (by have e : cstT 17 = 0 := rfl; omega), hG.2⟩
     ·
      obtain ⟨p, zk, u, hv, hcl, hpS, hl⟩ := Hp.out 17 (by decide) (by kernel_rfl)
      have e1 : a.tmps.getD 81 undef = .pointer (some ⟨p, zk, none⟩) := hv
      have e1' := e1
      simp only [Array.getD_eq_getD_getElem?] at e1'
      go_simp
      exact hK.out _ _ (Stp.refl S wx) (Hcc.out _ (Stp.refl S wx)) hl ⟨hG.1.mono (by have e : cstT 18 = 0 := rfl; omega), hG.2⟩
     ·
      go_simp
      exact hK.out _ _ ((Stp.refl S wx).alloc _) (Hcc.out _ ((Stp.refl S wx).alloc _)) (Kd.newInt S W.heap.size wx ([0, 5] : List Int) 2 _ rfl rfl hnz (by omega)) ⟨(hG.1.alloc _).mono (by have e : cstT 20 = 0 := rfl; omega), hG.2.alloc _⟩
     ·
      obtain ⟨p, hv, hbx, hpS⟩ := Hp.out 20 (by decide) (by kernel_rfl)
      have e1 : a.tmps.getD 83 undef = .pointer (some ⟨S, 0, none⟩) := (Hfr.out 83 (by decide)).trans rfl
      have e1' := e1
      simp only [Array.getD_eq_getD_getElem?] at e1'
      have e2 : a.tmps.getD 84 undef = .slice (some ⟨p, 0, none⟩) 2 2 := hv
      have e2' := e2
      simp only [Array.getD_eq_getD_getElem?] at e2'
      go_simp
      go_at_call 16
      refine (pick_box S (B2 + t) p 3 2 ([0, 5] : List Int) wx hG.1 (by have e : cstT 21 = 1 := rfl; omega) hbx hpS (by decide) (by decide)).mono ?_
      rintro e w2 ⟨z, hz, rfl, h4, s4⟩
      have hzb : 0 ≤ z ∧ z ≤ 5 := by simp at hz; omega
      exact hK.out _ _ h4 (Hcc.out _ h4) ⟨z, rfl, hzb.1, hzb.2⟩ ⟨s4.mono (by have e : cstT 21 = 1 := rfl; omega), hG.2.trans h4⟩
    case hend =>
     intro v wx hv hG hSw
     obtain ⟨p3, e3, -⟩ := hv 3 (by decide)
     obtain ⟨x4, e4, hx4⟩ := hv 4 (by decide)
     obtain ⟨p5, e5, -⟩ := hv 5 (by decide)
     obtain ⟨p6, e6, -⟩ := hv 6 (by decide)
     obtain ⟨p7, e7, -⟩ := hv 7 (by decide)
     obtain ⟨p8, q8_, e8, -⟩ := hv 8 (by decide)
     obtain ⟨p10, e10, -⟩ := hv 10 (by decide)
     obtain ⟨p11, q11, u11, e11, -⟩ := hv 11 (by decide)
     obtain ⟨a12, l12, c12, e12, hs12, hl12, hm12, hn12⟩ := hv 12 (by decide)
     obtain ⟨p13, e13, -⟩ := hv 13 (by decide)
     obtain ⟨p14, q14_, e14, -⟩ := hv 14 (by decide)
     obtain ⟨p16, e16, -⟩ := hv 16 (by decide)
     obtain ⟨p17, q17, u17, e17, -⟩ := hv 17 (by decide)
     obtain ⟨a18, l18, c18, e18, hs18, hl18, hm18, hn18⟩ := hv 18 (by decide)
     obtain ⟨p20, e20, -⟩ := hv 20 (by decide)
     obtain ⟨z21, e21, hz21a, hz21b⟩ := hv 21 (by decide)
     simp only [List.foldl, Act.put, List.setIfInBounds_toArray, Nat.reduceAdd, List.set_cons_zero, List.set_cons_succ, e3, e4, e5, e6, e7, e8, e10, e11, e12, e13, e14, e16, e17, e18, e20, e21]
     clear e3 e4 e5 e6 e7 e8 e10 e11 e12 e13 e14 e16 e17 e18 e20 e21 hv
     have hG1 := hG.1.mono (B' := B2 + 4) (by have e : (([3, 4, 5, 6, 7, 8, 10, 11, 12, 13, 14, 16, 17, 18, 20, 21] : List Nat).map cstT).foldl (· + ·) 0 = 4 := rfl; omega)
     have hg3 := HgW.out.stp hG.2 (by omega) (by omega)
     have hR2 := hRW.stp hG.2 (by omega)
     have hst2 := hstW.trans hG.2
     have hzx : W.heap.size ≤ wx.heap.size := hG.2.size
     obtain ⟨tv, htv⟩ : ∃ tv : Tlk, tv = ⟨x4, l12, l18, z21, a12, c12, a18, c18⟩ := ⟨_, rfl⟩
     have Hok : Hid (TlkOk tv) := by rw [htv]; exact ⟨hx4, by show l12.length ≤ _; omega, by show l18.length ≤ _; omega, hm12, hm18, by show _ ≤ z21; omega, by show z21 ≤ _; omega⟩
     have Hce : Hid (Cel.cells tv = [.string x4, .slice a12 l12.length c12, .slice a18 l18.length c18, .int .i64 z21]) := by show _ = _; rw [htv]; rfl
     have Hads : Hid (∀ y ∈ Nst.ads tv, W.heap.size ≤ y.block ∧ y.block < wx.heap.size) := fun y hy => by
      rw [htv] at hy
      rcases List.mem_append.1 hy with hy | hy
      ·
       have e : a12 = some y := by simpa using hy
       exact ⟨(hn12 y e).1, (hn12 y e).2.1⟩
      ·
       have e : a18 = some y := by simpa using hy
       exact ⟨(hn18 y e).1, (hn18 y e).2.1⟩
     have Hrd : Hid (Nst.rd wx tv) := by
      rw [htv]
      exact ⟨hs12, hs18⟩
     have Hown : Hid (∀ j, (vr.ownBlock = some j ∨ vs.ownBlock = some j ∨ vt.ownBlock = some j ∨ vw.ownBlock = some j ∨ vb.ownBlock = some j) → j < W.heap.size) := fun j hj => by
      rcases hj with hj | hj | hj | hj | hj
      ·
       exact (HgW.out.fr.lt j hj).2
      ·
       exact (HgW.out.fs.lt j hj).2
      ·
       exact (HgW.out.ft.lt j hj).2
      ·
       exact (HgW.out.fw.lt j hj).2
      ·
       exact (HgW.out.fb.lt j hj).2
     clear hs12 hl12 hm12 hn12 hs18 hl18 hm18 hn18
     clear htv hG hHeld HgW hsW hRW hstW
     have hHeld := hSw
     refine rtakeF (i := 22) (d := (some 86)) (v := ?_) (n := 40) rfl (by kernel_rfl) (by kernel_rfl) (by kernel_rfl) (by kernel_rfl) (by kernel_rfl) (by kernel_rfl) (fun _ _ _ h => h) (by kernel_rfl) (by assumption) ?_ ?_
     rotate_left 1
     ·
      (intro wI hSI; (try dsimp only at hSI); go_simp; (try with_reducible rfl))
     simp only [Act.put, lsetA, lsetZ, lsetS]
     have hg4 := hg3.alloc (.cells #[.string x4, .slice a12 l12.length c12, .slice a18 l18.length c18, .int .i64 z21] 60)
     have hst3 := hst2.alloc (.cells #[.string x4, .slice a12 l12.length c12, .slice a18 l18.length c18, .int .i64 z21] 60)
     have hR3 := hR2.alloc (.cells #[.string x4, .slice a12 l12.length c12, .slice a18 l18.length c18, .int .i64 z21] 60)
     have s5 := hG1.alloc (.cells #[.string x4, .slice a12 l12.length c12, .slice a18 l18.length c18, .int .i64 z21] 60)
     clear hg3 hst2 hR2 hG1 hSw
     refine rcallF (i := 23) (d := (some 87)) (by kernel_rfl) rfl (by kernel_rfl) (fun K hK => ?_)
     go_simp
     refine hK.out _ _ (.inr ?hS) (fun hHeld0 => ?_)
     case hS => exact hg4.box.cell 2
     clear hK K
     have hHeld := hHeld0.resolve_left (by decide)
     simp only [Act.put, lsetA, lsetZ, lsetS]
     refine rcallF (i := 24) (d := (some 88)) (by kernel_rfl) rfl (by kernel_rfl) (fun K hK => ?_)
     refine step_append_lie (α := Tlk) (by rfl) _ _ 28 (by rfl) 60 72 (.agg #[.string ⟨#[]⟩, .slice none 0 0, .slice none 0 0, .int .i64 0]) Tryz.underlying28 infoTlk (by rfl) vt lt (by rfl) hg4.ft tv _ (by rfl) (by rw [Hce.out]; exact Box.new _ _ _) (by omega) (by omega) (by simp; omega) ?_; intro g9 cap9 w9 hown9 hg9 hat9; have hb9 := hg4.box.kp ((Kp.refl (fun j => vt.ownBlock = some j) _).grown hg9 (fun j hj => .inl hj)) hg4.xt; have hc9 := hb9.cell 2; have hf9 := hb9.frozen 2; simp at hc9
     refine hK.out _ _ (.inr ?hS) (fun hHeld0 => ?_)
     case hS => exact hc9
     clear hK K
     have hHeld := hHeld0.resolve_left (by decide)
     simp only [Act.put, lsetA, lsetZ, lsetS]
     refine rtakeF (i := 25) (d := (some 89)) (v := ?_) (n := 40) rfl (by kernel_rfl) (by kernel_rfl) (by kernel_rfl) (by kernel_rfl) (by kernel_rfl) (by kernel_rfl) (fun _ _ _ h => h) (by kernel_rfl) (by assumption) ?_ ?_
     rotate_left 1
     ·
      (intro wI hSI; (try dsimp only at hSI); go_simp; (try with_reducible rfl))
     simp only [Act.put, lsetA, lsetZ, lsetS]
     refine rcallF (i := 26) (d := none) (by kernel_rfl) rfl (by kernel_rfl) (fun K hK => ?_)
     go_simp
     refine hK.out undef _ (.inl rfl) (fun _ => ?_)
     clear hK K
     simp only [Act.put, lsetA, lsetZ, lsetS]
     refine wpAnyF_done (by kernel_rfl) ?_ _
     have hl9 := hg4.ft.lt
     have hg10 := hg4.putt hg9 hown9 (atNew hat9) (fun q hq => by
      rcases List.mem_append.1 hq with hq | hq
      ·
       exact .inl hq
      ·
       rw [List.mem_singleton] at hq
       subst hq
       refine .inr ⟨Nst.same Hrd.out (fun y hy => Below.heap_alloc _ _ _ (Hads.out y hy).2), fun y hy => ?_⟩
       have h6 := Hads.out y hy
       exact ⟨by omega, by simp; omega, fun e => by have := Hown.out _ (.inl e); omega, fun e => by have := Hown.out _ (.inr (.inl e)); omega, fun e => by have := Hown.out _ (.inr (.inr (.inl e))); omega, fun e => by have := Hown.out _ (.inr (.inr (.inr (.inl e)))); omega, fun e => by have := Hown.out _ (.inr (.inr (.inr (.inr e)))); omega, by omega⟩)
     have hst4 : Stp S w (w9.setCell ⟨gb, 2, none⟩ (.slice (some ⟨g9, 0, none⟩) (lt.length + 1) cap9)) := (hst3.grown hg9 (fun b hb => .inr (by have := (hl9 b hb).1; omega))).setCell (.inr (by show _ ≤ gb; omega)) _
     have hR4 := ((hR3.grown hg9 (fun e => by have := (hl9 _ e.symm).1; omega)).setOther (p := ⟨gb, 2, none⟩) (by show gb ≠ w.heap.size; omega) (.slice (some ⟨g9, 0, none⟩) (lt.length + 1) cap9))
     have s6 := ((s5.grown hg9 (fun b hb => by have := (hl9 b hb).1; omega)).setOther (p := ⟨gb, 2, none⟩) (by show S < gb; omega) (.slice (some ⟨g9, 0, none⟩) (lt.length + 1) cap9))
     clear hHeld hg4 hst3 hR3 s5 hg9 hown9 hat9 hb9 hc9 hf9 hl9 Hce Hads Hrd Hown
     generalize w9.setCell ⟨gb, 2, none⟩ (.slice (some ⟨g9, 0, none⟩) (lt.length + 1) cap9) = W9 at *
     go_wp2_with fail
     go_meet
     exact ⟨vr, vs, _, vw, vb, lr, ls, lt ++ [tv], lw, lb, hg10, ⟨by omega, by omega, by rw [List.length_append]; show _ + 1 ≤ _; omega, by omega, by omega⟩, hro.out, hso.out, all_snoc hto.out Hok.out, hwo.out, hbo.out, hR4, hst4, s6.mono (by omega)⟩
   ·
    have hc0 := hgW.box.cell 3
    simp at hc0
    clear hgW
    go_upto_region 12 with (fail)
    refine wp_regionF (S := (fun wx => wx.cell? ⟨gb, 3, none⟩ = some vw)) 16 (by kernel_rfl) ?hS (fun hHeld => ?_)
    case hS => exact hc0
    refine rtakeF (i := 0) (d := (some 92)) (v := ?_) (n := 40) rfl (by kernel_rfl) (by kernel_rfl) (by kernel_rfl) (by kernel_rfl) (by kernel_rfl) (by kernel_rfl) (fun _ _ _ h => h) (by kernel_rfl) (by assumption) ?_ ?_
    rotate_left 1
    ·
     (intro wI hSI; (try dsimp only at hSI); go_simp; (try with_reducible rfl))
    simp only [Act.put, lsetA, lsetZ, lsetS]
    refine rtakeF (i := 1) (d := (some 93)) (v := ?_) (n := 40) rfl (by kernel_rfl) (by kernel_rfl) (by kernel_rfl) (by kernel_rfl) (by kernel_rfl) (by kernel_rfl) (fun _ _ _ h => h) (by kernel_rfl) (by assumption) ?_ ?_
    rotate_left 1
    ·
     (intro wI hSI; (try dsimp only at hSI); go_simp; (try with_reducible rfl))
    simp only [Act.put, lsetA, lsetZ, lsetS]
    refine rtakeF (i := 2) (d := (some 94)) (v := ?_) (n := 40) rfl (by kernel_rfl) (by kernel_rfl) (by kernel_rfl) (by kernel_rfl) (by kernel_rfl) (by kernel_rfl) (fun _ _ _ h => h) (by kernel_rfl) (by assumption) ?_ ?_
    rotate_left 1
    ·
     (intro wI hSI; (try dsimp only at hSI); go_simp; (try with_reducible rfl))
    simp only [Act.put, lsetA, lsetZ, lsetS]
    refine rtakeF (i := 8) (d := (some 100)) (v := ?_) (n := 40) rfl (by kernel_rfl) (by kernel_rfl) (by kernel_rfl) (by kernel_rfl) (by kernel_rfl) (by kernel_rfl) (fun _ _ _ h => h) (by kernel_rfl) (by assumption) ?_ ?_
    rotate_left 1
    ·
     (intro wI hSI; (try dsimp only at hSI); go_simp; (try with_reducible rfl))
    simp only [Act.put, lsetA, lsetZ, lsetS]
    show wpAnyF _ _ _ _ _ _ (5 + ([3, 4, 5, 6, 7, 9, 10, 11] : List Nat).length) _ _ _
    refine wpAnyF_phaseB [3, 4, 5, 6, 7, 9, 10, 11] (fun m => m + 92) cstW (fun m v wx => (kdW m).ok S W.heap.size v wx) (fun t wx => Strm S (B2 + t) wx ∧ Stp S W wx) (Stp S) _ _ 40 5 _ (by decide) (by intro i _ j _ h; omega) (fun i hi => by have h : i ≤ 11 := (by simp at hi; omega); show i + 92 < 123; omega) (by kernel_rfl) (by kernel_rfl) (by kernel_rfl) (by kernel_rfl) (fun j v w w' hx h => h.stp hx) (fun m => by unfold cstW; repeat' split <;> omega) ?hop ?hend (by kernel_rfl) ⟨hsW.drew.mono (by omega), (Stp.refl _ _).drew⟩ hHeld
    case hop =>
     intro i hi o ho a wx t K' htc hSw hG hfr hp hK
     have hSx := hG.1.lt
     have htc2 : t + cstW i ≤ 2 := htc
     have hcc : ∀ wy, Stp S wx wy → wy.cell? ⟨gb, 3, none⟩ = some vw := fun wy h => cellKp (Kp.of_stp (X := fun j => j = S) h rfl) (fun e => by omega) hSw
     have Hcc := Lib.hid hcc
     have Hfr := Lib.hid hfr
     have Hp := Lib.hid hp
     have hnz : W.heap.size ≤ wx.heap.size := hG.2.size
     clear hfr hp hcc htc
     simp only [List.mem_cons, List.not_mem_nil, or_false] at hi
     rcases hi with rfl | rfl | rfl | rfl | rfl | rfl | rfl | rfl
     all_goals obtain rfl := Option.some.inj ho
     all_goals clear ho
     ·
      go_simp
      exact hK.out _ _ ((Stp.refl S wx).alloc _) (Hcc.out _ ((Stp.refl S wx).alloc _)) (Kd.newStr S W.heap.size wx ([(⟨#[]⟩ : ByteArray), ⟨#[97, 110, 110]⟩, ⟨#[122, 101, 100]⟩] : List ByteArray) 3 _ rfl rfl hnz (by omega)) ⟨(hG.1.alloc _).mono (by have e : cstW 3 = 0 := rfl; omega), hG.2.alloc _⟩
     ·
      obtain ⟨p, hv, hbx, hpS, -⟩ := Hp.out 3 (by decide) (by kernel_rfl)
      have e1 : a.tmps.getD 94 undef = .pointer (some ⟨S, 0, none⟩) := (Hfr.out 94 (by decide)).trans rfl
      have e1' := e1
      simp only [Array.getD_eq_getD_getElem?] at e1'
      have e2 : a.tmps.getD 95 undef = .slice (some ⟨p, 0, none⟩) 3 3 := hv
      have e2' := e2
      simp only [Array.getD_eq_getD_getElem?] at e2'
      go_simp
      go_at_call 22
      refine (one_any S (B2 + t) p 3 3 9 _ _ hG.1 (by have e : cstW 4 = 1 := rfl; omega) hbx hpS rfl (by omega) (by omega) (by simp; decide)).mono ?_
      rintro e w2 ⟨x, hx, rfl, h4, s4⟩
      exact hK.out _ _ h4 (Hcc.out _ h4) ⟨x, rfl, hx⟩ ⟨s4.mono (by have e : cstW 4 = 1 := rfl; omega), hG.2.trans h4⟩
     ·
      go_simp
      exact hK.out _ _ ((Stp.refl S wx).alloc _) (Hcc.out _ ((Stp.refl S wx).alloc _)) (Kd.newStr S W.heap.size wx ([⟨#[110, 111]⟩] : List ByteArray) 1 _ rfl rfl hnz (by omega)) ⟨(hG.1.alloc _).mono (by have e : cstW 5 = 0 := rfl; omega), hG.2.alloc _⟩
     ·
      go_simp
      exact hK.out _ _ ((Stp.refl S wx).alloc _) (Hcc.out _ ((Stp.refl S wx).alloc _)) (Kd.newStr S W.heap.size wx ([⟨#[112, 97]⟩, ⟨#[112, 97]⟩] : List ByteArray) 2 _ rfl rfl hnz (by omega)) ⟨(hG.1.alloc _).mono (by have e : cstW 6 = 0 := rfl; omega), hG.2.alloc _⟩
     ·
      obtain ⟨p5, hv5, hbx5, hpS5, hpn5⟩ := Hp.out 5 (by decide) (by kernel_rfl)
      have e5 : a.tmps.getD 97 undef = .slice (some ⟨p5, 0, none⟩) 1 1 := hv5
      have e5' := e5
      simp only [Array.getD_eq_getD_getElem?] at e5'
      obtain ⟨p6, hv6, hbx6, hpS6, hpn6⟩ := Hp.out 6 (by decide) (by kernel_rfl)
      have e6 : a.tmps.getD 98 undef = .slice (some ⟨p6, 0, none⟩) 2 2 := hv6
      have e6' := e6
      simp only [Array.getD_eq_getD_getElem?] at e6'
      go_simp
      refine hK.out _ _ ((Stp.refl S wx).alloc _) (Hcc.out _ ((Stp.refl S wx).alloc _)) (Kd.newNst S W.heap.size wx 3 _ rfl (by omega) ?_) ⟨(hG.1.alloc _).mono (by have e : cstW 7 = 0 := rfl; omega), hG.2.alloc _⟩
      intro k hk
      obtain rfl | rfl | rfl : k = 0 ∨ k = 1 ∨ k = 2 := by omega
      ·
       exact ⟨none, [], 0, rfl, .inl rfl, by decide, (fun x hx => by cases hx), (fun y hy => by cases hy)⟩
      ·
       exact Kd.lstOf (hbx5.alloc _) ([⟨#[110, 111]⟩] : List ByteArray) 1 rfl rfl hpS5 hpn5 (by decide) (by decide)
      ·
       exact Kd.lstOf (hbx6.alloc _) ([⟨#[112, 97]⟩, ⟨#[112, 97]⟩] : List ByteArray) 2 rfl rfl hpS6 hpn6 (by decide) (by decide)
     ·
      have e1 : a.tmps.getD 100 undef = .pointer (some ⟨S, 0, none⟩) := (Hfr.out 100 (by decide)).trans rfl
      have e1' := e1
      simp only [Array.getD_eq_getD_getElem?] at e1'
      go_simp
      go_at_call 20
      refine (next_any S (B2 + t) 3 wx hG.1 (by have e : cstW 9 = 1 := rfl; omega) (by omega) (by omega)).mono ?_
      rintro e w2 ⟨z, ⟨hz1, hz2⟩, rfl, h4, s4⟩
      obtain ⟨zk, rfl⟩ := Int.eq_ofNat_of_zero_le hz1
      exact hK.out _ _ h4 (Hcc.out _ h4) ⟨zk, rfl, by omega⟩ ⟨s4.mono (by have e : cstW 9 = 1 := rfl; omega), hG.2.trans h4⟩
     ·
      obtain ⟨p, vs0, hv, hbx, hsz, hpS, hel⟩ := Hp.out 7 (by decide) (by kernel_rfl)
      obtain ⟨zk, hv2, hzk⟩ := Hp.out 9 (by decide) (by kernel_rfl)
      have hl := hel zk hzk
      have e1 : a.tmps.getD 99 undef = .slice (some ⟨p, 0, none⟩) 3 3 := hv
      have e1' := e1
      simp only [Array.getD_eq_getD_getElem?] at e1'
      have e2 : a.tmps.getD 101 undef = .int .i64 zk := hv2
      have e2' := e2
      simp only [Array.getD_eq_getD_getElem?] at e2'
      have hk1 : (0 : Int) ≤ (zk : Int) := by omega
      have hk2 : (zk : Int) < 3 := by omega
      go_simp
      exact hK.out _ _ (Stp.refl S wx) (Hcc.out _ (Stp.refl S wx)) ⟨p, zk, _, by simp, Kd.cellNst hbx (by omega), hpS, hl⟩ ⟨hG.1.mono (by have e : cstW 10 = 0 := rfl; omega), hG.2⟩
     ·
      obtain ⟨p, zk, u, hv, hcl, hpS, hl⟩ := Hp.out 10 (by decide) (by kernel_rfl)
      have e1 : a.tmps.getD 102 undef = .pointer (some ⟨p, zk, none⟩) := hv
      have e1' := e1
      simp only [Array.getD_eq_getD_getElem?] at e1'
      go_simp
      exact hK.out _ _ (Stp.refl S wx) (Hcc.out _ (Stp.refl S wx)) hl ⟨hG.1.mono (by have e : cstW 11 = 0 := rfl; omega), hG.2⟩
    case hend =>
     intro v wx hv hG hSw
     obtain ⟨p3, e3, -⟩ := hv 3 (by decide)
     obtain ⟨x4, e4, hx4⟩ := hv 4 (by decide)
     obtain ⟨p5, e5, -⟩ := hv 5 (by decide)
     obtain ⟨p6, e6, -⟩ := hv 6 (by decide)
     obtain ⟨p7, q7_, e7, -⟩ := hv 7 (by decide)
     obtain ⟨p9, e9, -⟩ := hv 9 (by decide)
     obtain ⟨p10, q10, u10, e10, -⟩ := hv 10 (by decide)
     obtain ⟨a11, l11, c11, e11, hs11, hl11, hm11, hn11⟩ := hv 11 (by decide)
     simp only [List.foldl, Act.put, List.setIfInBounds_toArray, Nat.reduceAdd, List.set_cons_zero, List.set_cons_succ, e3, e4, e5, e6, e7, e9, e10, e11]
     clear e3 e4 e5 e6 e7 e9 e10 e11 hv
     have hG1 := hG.1.mono (B' := B2 + 2) (by have e : (([3, 4, 5, 6, 7, 9, 10, 11] : List Nat).map cstW).foldl (· + ·) 0 = 2 := rfl; omega)
     have hg3 := HgW.out.stp hG.2 (by omega) (by omega)
     have hR2 := hRW.stp hG.2 (by omega)
     have hst2 := hstW.trans hG.2
     have hzx : W.heap.size ≤ wx.heap.size := hG.2.size
     obtain ⟨tv, htv⟩ : ∃ tv : Wsh, tv = ⟨x4, l11, a11, c11⟩ := ⟨_, rfl⟩
     have Hok : Hid (WshOk tv) := by rw [htv]; exact ⟨hx4, by show l11.length ≤ _; omega, hm11, hl11.2⟩
     have Hce : Hid (Cel.cells tv = [.string x4, .slice a11 l11.length c11]) := by show _ = _; rw [htv]; rfl
     have Hads : Hid (∀ y ∈ Nst.ads tv, W.heap.size ≤ y.block ∧ y.block < wx.heap.size) := fun y hy => by
      rw [htv] at hy
      have hy2 : y ∈ a11.toList := hy
      have e : a11 = some y := by simpa using hy2
      exact ⟨(hn11 y e).1, (hn11 y e).2.1⟩
     have Hrd : Hid (Nst.rd wx tv) := by
      rw [htv]
      exact hs11
     have Hown : Hid (∀ j, (vr.ownBlock = some j ∨ vs.ownBlock = some j ∨ vt.ownBlock = some j ∨ vw.ownBlock = some j ∨ vb.ownBlock = some j) → j < W.heap.size) := fun j hj => by
      rcases hj with hj | hj | hj | hj | hj
      ·
       exact (HgW.out.fr.lt j hj).2
      ·
       exact (HgW.out.fs.lt j hj).2
      ·
       exact (HgW.out.ft.lt j hj).2
      ·
       exact (HgW.out.fw.lt j hj).2
      ·
       exact (HgW.out.fb.lt j hj).2
     clear hs11 hl11 hm11 hn11
     clear htv hG hHeld HgW hsW hRW hstW
     have hHeld := hSw
     refine rtakeF (i := 12) (d := (some 104)) (v := ?_) (n := 40) rfl (by kernel_rfl) (by kernel_rfl) (by kernel_rfl) (by kernel_rfl) (by kernel_rfl) (by kernel_rfl) (fun _ _ _ h => h) (by kernel_rfl) (by assumption) ?_ ?_
     rotate_left 1
     ·
      (intro wI hSI; (try dsimp only at hSI); go_simp; (try with_reducible rfl))
     simp only [Act.put, lsetA, lsetZ, lsetS]
     have hg4 := hg3.alloc (.cells #[.string x4, .slice a11 l11.length c11] 62)
     have hst3 := hst2.alloc (.cells #[.string x4, .slice a11 l11.length c11] 62)
     have hR3 := hR2.alloc (.cells #[.string x4, .slice a11 l11.length c11] 62)
     have s5 := hG1.alloc (.cells #[.string x4, .slice a11 l11.length c11] 62)
     clear hg3 hst2 hR2 hG1 hSw
     refine rcallF (i := 13) (d := (some 105)) (by kernel_rfl) rfl (by kernel_rfl) (fun K hK => ?_)
     go_simp
     refine hK.out _ _ (.inr ?hS) (fun hHeld0 => ?_)
     case hS => exact hg4.box.cell 3
     clear hK K
     have hHeld := hHeld0.resolve_left (by decide)
     simp only [Act.put, lsetA, lsetZ, lsetS]
     refine rcallF (i := 14) (d := (some 106)) (by kernel_rfl) rfl (by kernel_rfl) (fun K hK => ?_)
     refine step_append_lie (α := Wsh) (by rfl) _ _ 29 (by rfl) 62 40 (.agg #[.string ⟨#[]⟩, .slice none 0 0]) Tryz.underlying29 infoWsh (by rfl) vw lw (by rfl) hg4.fw tv _ (by rfl) (by rw [Hce.out]; exact Box.new _ _ _) (by omega) (by omega) (by simp; omega) ?_; intro g9 cap9 w9 hown9 hg9 hat9; have hb9 := hg4.box.kp ((Kp.refl (fun j => vw.ownBlock = some j) _).grown hg9 (fun j hj => .inl hj)) hg4.xw; have hc9 := hb9.cell 3; have hf9 := hb9.frozen 3; simp at hc9
     refine hK.out _ _ (.inr ?hS) (fun hHeld0 => ?_)
     case hS => exact hc9
     clear hK K
     have hHeld := hHeld0.resolve_left (by decide)
     simp only [Act.put, lsetA, lsetZ, lsetS]
     refine rtakeF (i := 15) (d := (some 107)) (v := ?_) (n := 40) rfl (by kernel_rfl) (by kernel_rfl) (by kernel_rfl) (by kernel_rfl) (by kernel_rfl) (by kernel_rfl) (fun _ _ _ h => h) (by kernel_rfl) (by assumption) ?_ ?_
     rotate_left 1
     ·
      (intro wI hSI; (try dsimp only at hSI); go_simp; (try with_reducible rfl))
     simp only [Act.put, lsetA, lsetZ, lsetS]
     refine rcallF (i := 16) (d := none) (by kernel_rfl) rfl (by kernel_rfl) (fun K hK => ?_)
     go_simp
     refine hK.out undef _ (.inl rfl) (fun _ => ?_)
     clear hK K
     simp only [Act.put, lsetA, lsetZ, lsetS]
     refine wpAnyF_done (by kernel_rfl) ?_ _
     have hl9 := hg4.fw.lt
     have hg10 := hg4.putw hg9 hown9 (atNew hat9) (fun q hq => by
      rcases List.mem_append.1 hq with hq | hq
      ·
       exact .inl hq
      ·
       rw [List.mem_singleton] at hq
       subst hq
       refine .inr ⟨Nst.same Hrd.out (fun y hy => Below.heap_alloc _ _ _ (Hads.out y hy).2), fun y hy => ?_⟩
       have h6 := Hads.out y hy
       exact ⟨by omega, by simp; omega, fun e => by have := Hown.out _ (.inl e); omega, fun e => by have := Hown.out _ (.inr (.inl e)); omega, fun e => by have := Hown.out _ (.inr (.inr (.inl e))); omega, fun e => by have := Hown.out _ (.inr (.inr (.inr (.inl e)))); omega, fun e => by have := Hown.out _ (.inr (.inr (.inr (.inr e)))); omega, by omega⟩)
     have hst4 : Stp S w (w9.setCell ⟨gb, 3, none⟩ (.slice (some ⟨g9, 0, none⟩) (lw.length + 1) cap9)) := (hst3.grown hg9 (fun b hb => .inr (by have := (hl9 b hb).1; omega))).setCell (.inr (by show _ ≤ gb; omega)) _
     have hR4 := ((hR3.grown hg9 (fun e => by have := (hl9 _ e.symm).1; omega)).setOther (p := ⟨gb, 3, none⟩) (by show gb ≠ w.heap.size; omega) (.slice (some ⟨g9, 0, none⟩) (lw.length + 1) cap9))
     have s6 := ((s5.grown hg9 (fun b hb => by have := (hl9 b hb).1; omega)).setOther (p := ⟨gb, 3, none⟩) (by show S < gb; omega) (.slice (some ⟨g9, 0, none⟩) (lw.length + 1) cap9))
     clear hHeld hg4 hst3 hR3 s5 hg9 hown9 hat9 hb9 hc9 hf9 hl9 Hce Hads Hrd Hown
     generalize w9.setCell ⟨gb, 3, none⟩ (.slice (some ⟨g9, 0, none⟩) (lw.length + 1) cap9) = W9 at *
     go_wp2_with fail
     go_meet
     exact ⟨vr, vs, vt, _, vb, lr, ls, lt, lw ++ [tv], lb, hg10, ⟨by omega, by omega, by omega, by rw [List.length_append]; show _ + 1 ≤ _; omega, by omega⟩, hro.out, hso.out, hto.out, all_snoc hwo.out Hok.out, hbo.out, hR4, hst4, s6.mono (by omega)⟩
   ·
    have hc0 := hgW.box.cell 4
    simp at hc0
    clear hgW
    go_upto_region 14 with (fail)
    refine wp_regionF (S := (fun wx => wx.cell? ⟨gb, 4, none⟩ = some vb)) 12 (by kernel_rfl) ?hS (fun hHeld => ?_)
    case hS => exact hc0
    refine rtakeF (i := 0) (d := (some 110)) (v := ?_) (n := 40) rfl (by kernel_rfl) (by kernel_rfl) (by kernel_rfl) (by kernel_rfl) (by kernel_rfl) (by kernel_rfl) (fun _ _ _ h => h) (by kernel_rfl) (by assumption) ?_ ?_
    rotate_left 1
    ·
     (intro wI hSI; (try dsimp only at hSI); go_simp; (try with_reducible rfl))
    simp only [Act.put, lsetA, lsetZ, lsetS]
    refine rtakeF (i := 1) (d := (some 111)) (v := ?_) (n := 40) rfl (by kernel_rfl) (by kernel_rfl) (by kernel_rfl) (by kernel_rfl) (by kernel_rfl) (by kernel_rfl) (fun _ _ _ h => h) (by kernel_rfl) (by assumption) ?_ ?_
    rotate_left 1
    ·
     (intro wI hSI; (try dsimp only at hSI); go_simp; (try with_reducible rfl))
    simp only [Act.put, lsetA, lsetZ, lsetS]
    refine rtakeF (i := 2) (d := (some 112)) (v := ?_) (n := 40) rfl (by kernel_rfl) (by kernel_rfl) (by kernel_rfl) (by kernel_rfl) (by kernel_rfl) (by kernel_rfl) (fun _ _ _ h => h) (by kernel_rfl) (by assumption) ?_ ?_
    rotate_left 1
    ·
     (intro wI hSI; (try dsimp only at hSI); go_simp; (try with_reducible rfl))
    simp only [Act.put, lsetA, lsetZ, lsetS]
    refine rtakeF (i := 5) (d := (some 115)) (v := ?_) (n := 40) rfl (by kernel_rfl) (by kernel_rfl) (by kernel_rfl) (by kernel_rfl) (by kernel_rfl) (by kernel_rfl) (fun _ _ _ h => h) (by kernel_rfl) (by assumption) ?_ ?_
    rotate_left 1
    ·
     (intro wI hSI; (try dsimp only at hSI); go_simp; (try with_reducible rfl))
    simp only [Act.put, lsetA, lsetZ, lsetS]
    show wpAnyF _ _ _ _ _ _ (5 + ([3, 4, 6, 7] : List Nat).length) _ _ _
    refine wpAnyF_phaseB [3, 4, 6, 7] (fun m => m + 110) cstB (fun m v wx => (kdB m).ok S W.heap.size v wx) (fun t wx => Strm S (B2 + t) wx ∧ Stp S W wx) (Stp S) _ _ 40 5 _ (by decide) (by intro i _ j _ h; omega) (fun i hi => by have h : i ≤ 7 := (by simp at hi; omega); show i + 110 < 123; omega) (by kernel_rfl) (by kernel_rfl) (by kernel_rfl) (by kernel_rfl) (fun j v w w' hx h => h.stp hx) (fun m => by unfold cstB; repeat' split <;> omega) ?hop ?hend (by kernel_rfl) ⟨hsW.drew.mono (by omega), (Stp.refl _ _).drew⟩ hHeld
    case hop =>
     intro i hi o ho a wx t K' htc hSw hG hfr hp hK
     have hSx := hG.1.lt
     have htc2 : t + cstB i ≤ 2 := htc
     have hcc : ∀ wy, Stp S wx wy → wy.cell? ⟨gb, 4, none⟩ = some vb := fun wy h => cellKp (Kp.of_stp (X := fun j => j = S) h rfl) (fun e => by omega) hSw
     have Hcc := Lib.hid hcc
     have Hfr := Lib.hid hfr
     have Hp := Lib.hid hp
     have hnz : W.heap.size ≤ wx.heap.size := hG.2.size
     clear hfr hp hcc htc
     simp only [List.mem_cons, List.not_mem_nil, or_false] at hi
     rcases hi with rfl | rfl | rfl | rfl
     all_goals obtain rfl := Option.some.inj ho
     all_goals clear ho
     ·
      go_simp
      exact hK.out _ _ ((Stp.refl S wx).alloc _) (Hcc.out _ ((Stp.refl S wx).alloc _)) (Kd.newStr S W.heap.size wx ([(⟨#[]⟩ : ByteArray), ⟨#[97, 97]⟩, ⟨#[122, 101, 100]⟩] : List ByteArray) 3 _ rfl rfl hnz (by omega)) ⟨(hG.1.alloc _).mono (by have e : cstB 3 = 0 := rfl; omega), hG.2.alloc _⟩
     ·
      obtain ⟨p, hv, hbx, hpS, -⟩ := Hp.out 3 (by decide) (by kernel_rfl)
      have e1 : a.tmps.getD 112 undef = .pointer (some ⟨S, 0, none⟩) := (Hfr.out 112 (by decide)).trans rfl
      have e1' := e1
      simp only [Array.getD_eq_getD_getElem?] at e1'
      have e2 : a.tmps.getD 113 undef = .slice (some ⟨p, 0, none⟩) 3 3 := hv
      have e2' := e2
      simp only [Array.getD_eq_getD_getElem?] at e2'
      go_simp
      go_at_call 22
      refine (one_any S (B2 + t) p 3 3 9 _ _ hG.1 (by have e : cstB 4 = 1 := rfl; omega) hbx hpS rfl (by omega) (by omega) (by simp; decide)).mono ?_
      rintro e w2 ⟨x, hx, rfl, h4, s4⟩
      exact hK.out _ _ h4 (Hcc.out _ h4) ⟨x, rfl, hx⟩ ⟨s4.mono (by have e : cstB 4 = 1 := rfl; omega), hG.2.trans h4⟩
     ·
      go_simp
      exact hK.out _ _ ((Stp.refl S wx).alloc _) (Hcc.out _ ((Stp.refl S wx).alloc _)) (Kd.newStr S W.heap.size wx ([⟨#[115, 97]⟩, ⟨#[110, 111]⟩] : List ByteArray) 2 _ rfl rfl hnz (by omega)) ⟨(hG.1.alloc _).mono (by have e : cstB 6 = 0 := rfl; omega), hG.2.alloc _⟩
     ·
      obtain ⟨p, hv, hbx, hpS, -⟩ := Hp.out 6 (by decide) (by kernel_rfl)
      have e1 : a.tmps.getD 115 undef = .pointer (some ⟨S, 0, none⟩) := (Hfr.out 115 (by decide)).trans rfl
      have e1' := e1
      simp only [Array.getD_eq_getD_getElem?] at e1'
      have e2 : a.tmps.getD 116 undef = .slice (some ⟨p, 0, none⟩) 2 2 := hv
      have e2' := e2
      simp only [Array.getD_eq_getD_getElem?] at e2'
      go_simp
      go_at_call 22
      refine (one_any S (B2 + t) p 2 2 9 _ _ hG.1 (by have e : cstB 7 = 1 := rfl; omega) hbx hpS rfl (by omega) (by omega) (by simp; decide)).mono ?_
      rintro e w2 ⟨x, hx, rfl, h4, s4⟩
      exact hK.out _ _ h4 (Hcc.out _ h4) ⟨x, rfl, hx⟩ ⟨s4.mono (by have e : cstB 7 = 1 := rfl; omega), hG.2.trans h4⟩
    case hend =>
     intro v wx hv hG hSw
     obtain ⟨p3, e3, -⟩ := hv 3 (by decide)
     obtain ⟨x4, e4, hx4⟩ := hv 4 (by decide)
     obtain ⟨p6, e6, -⟩ := hv 6 (by decide)
     obtain ⟨x7, e7, hx7⟩ := hv 7 (by decide)
     simp only [List.foldl, Act.put, List.setIfInBounds_toArray, Nat.reduceAdd, List.set_cons_zero, List.set_cons_succ, e3, e4, e6, e7]
     clear e3 e4 e6 e7 hv
     have hG1 := hG.1.mono (B' := B2 + 2) (by have e : (([3, 4, 6, 7] : List Nat).map cstB).foldl (· + ·) 0 = 2 := rfl; omega)
     have hg3 := HgW.out.stp hG.2 (by omega) (by omega)
     have hR2 := hRW.stp hG.2 (by omega)
     have hst2 := hstW.trans hG.2
     have hzx : W.heap.size ≤ wx.heap.size := hG.2.size
     obtain ⟨tv, htv⟩ : ∃ tv : Ban2, tv = (x4, x7) := ⟨_, rfl⟩
     have Hok : Hid (BanOk tv) := by rw [htv]; exact ⟨hx4, hx7⟩
     have Hce : Hid (Cel.cells tv = [.string x4, .string x7]) := by show _ = _; rw [htv]; rfl
     clear htv hG hHeld HgW hsW hRW hstW
     have hHeld := hSw
     refine rtakeF (i := 8) (d := (some 118)) (v := ?_) (n := 40) rfl (by kernel_rfl) (by kernel_rfl) (by kernel_rfl) (by kernel_rfl) (by kernel_rfl) (by kernel_rfl) (fun _ _ _ h => h) (by kernel_rfl) (by assumption) ?_ ?_
     rotate_left 1
     ·
      (intro wI hSI; (try dsimp only at hSI); go_simp; (try with_reducible rfl))
     simp only [Act.put, lsetA, lsetZ, lsetS]
     have hg4 := hg3.alloc (.cells #[.string x4, .string x7] 64)
     have hst3 := hst2.alloc (.cells #[.string x4, .string x7] 64)
     have hR3 := hR2.alloc (.cells #[.string x4, .string x7] 64)
     have s5 := hG1.alloc (.cells #[.string x4, .string x7] 64)
     clear hg3 hst2 hR2 hG1 hSw
     refine rcallF (i := 9) (d := (some 119)) (by kernel_rfl) rfl (by kernel_rfl) (fun K hK => ?_)
     go_simp
     refine hK.out _ _ (.inr ?hS) (fun hHeld0 => ?_)
     case hS => exact hg4.box.cell 4
     clear hK K
     have hHeld := hHeld0.resolve_left (by decide)
     simp only [Act.put, lsetA, lsetZ, lsetS]
     refine rcallF (i := 10) (d := (some 120)) (by kernel_rfl) rfl (by kernel_rfl) (fun K hK => ?_)
     refine step_append_lie (α := Ban2) (by rfl) _ _ 30 (by rfl) 64 32 (.agg #[.string ⟨#[]⟩, .string ⟨#[]⟩]) Tryz.underlying30 infoBan (by rfl) vb lb (by rfl) hg4.fb tv _ (by rfl) (by rw [Hce.out]; exact Box.new _ _ _) (by omega) (by omega) (by simp; omega) ?_; intro g9 cap9 w9 hown9 hg9 hat9; have hb9 := hg4.box.kp ((Kp.refl (fun j => vb.ownBlock = some j) _).grown hg9 (fun j hj => .inl hj)) hg4.xb; have hc9 := hb9.cell 4; have hf9 := hb9.frozen 4; simp at hc9
     refine hK.out _ _ (.inr ?hS) (fun hHeld0 => ?_)
     case hS => exact hc9
     clear hK K
     have hHeld := hHeld0.resolve_left (by decide)
     simp only [Act.put, lsetA, lsetZ, lsetS]
     refine rtakeF (i := 11) (d := (some 121)) (v := ?_) (n := 40) rfl (by kernel_rfl) (by kernel_rfl) (by kernel_rfl) (by kernel_rfl) (by kernel_rfl) (by kernel_rfl) (fun _ _ _ h => h) (by kernel_rfl) (by assumption) ?_ ?_
     rotate_left 1
     ·
      (intro wI hSI; (try dsimp only at hSI); go_simp; (try with_reducible rfl))
     simp only [Act.put, lsetA, lsetZ, lsetS]
     refine rcallF (i := 12) (d := none) (by kernel_rfl) rfl (by kernel_rfl) (fun K hK => ?_)
     go_simp
     refine hK.out undef _ (.inl rfl) (fun _ => ?_)
     clear hK K
     simp only [Act.put, lsetA, lsetZ, lsetS]
     refine wpAnyF_done (by kernel_rfl) ?_ _
     have hl9 := hg4.fb.lt
     have hg10 := hg4.putb hg9 hown9 (atNew hat9)
     have hst4 : Stp S w (w9.setCell ⟨gb, 4, none⟩ (.slice (some ⟨g9, 0, none⟩) (lb.length + 1) cap9)) := (hst3.grown hg9 (fun b hb => .inr (by have := (hl9 b hb).1; omega))).setCell (.inr (by show _ ≤ gb; omega)) _
     have hR4 := ((hR3.grown hg9 (fun e => by have := (hl9 _ e.symm).1; omega)).setOther (p := ⟨gb, 4, none⟩) (by show gb ≠ w.heap.size; omega) (.slice (some ⟨g9, 0, none⟩) (lb.length + 1) cap9))
     have s6 := ((s5.grown hg9 (fun b hb => by have := (hl9 b hb).1; omega)).setOther (p := ⟨gb, 4, none⟩) (by show S < gb; omega) (.slice (some ⟨g9, 0, none⟩) (lb.length + 1) cap9))
     clear hHeld hg4 hst3 hR3 s5 hg9 hown9 hat9 hb9 hc9 hf9 hl9 Hce
     generalize w9.setCell ⟨gb, 4, none⟩ (.slice (some ⟨g9, 0, none⟩) (lb.length + 1) cap9) = W9 at *
     go_wp2_with fail
     go_meet
     exact ⟨vr, vs, vt, vw, _, lr, ls, lt, lw, lb ++ [tv], hg10, ⟨by omega, by omega, by omega, by omega, by rw [List.length_append]; show _ + 1 ≤ _; omega⟩, hro.out, hso.out, hto.out, hwo.out, all_snoc hbo.out Hok.out, hR4, hst4, s6.mono (by omega)⟩
   ·
    have hc0 := hgW.box.cell 2
    simp at hc0
    obtain ⟨at_, ct, rfl, -, -, -⟩ := hgW.ft.form
    go_wp2_with fail
    refine (reverseTlk_any _ lt at_ ct W hgW.ft (by omega)).mono ?_
    rintro e w8 ⟨l', rfl, hll, hin, hown, hkp⟩
    have hg8 := hgW.turnt hkp hin hown
    have hR8 := hRW.kp hkp (fun e => by have := (hgW.ft.lt _ e).1; omega)
    have hst8 := hstW.thenKp hkp (fun j hj => .inr (by have := (hgW.ft.lt _ hj).1; omega))
    have s11 := hsW.kp hkp (fun j hj e => by have := (hgW.ft.lt _ e).1; omega)
    clear hgW HgW hRW hstW hsW
    go_wp2_with fail
    go_meet
    exact ⟨_, _, _, _, _, _, _, l', _, _, hg8, ⟨by omega, by omega, by omega, by omega, by omega⟩, hro.out, hso.out, fun x hx => hto.out x (hin x hx), hwo.out, hbo.out, hR8, hst8, s11.mono (by omega)⟩
 case rest =>
  clear hg6 hR6 hst6 s9 hro hso hto hwo hbo Hlen
  obtain ⟨vr, vs, vt, vw, vb, lr, ls, lt, lw, lb, hg, hlen, hro, hso, hto, hwo, hbo, hR, hst, hsm⟩ := hcut
  obtain ⟨ar, cr, rfl, -, -, -⟩ := hg.fr.form
  obtain ⟨as9, cs, rfl, -, -, -⟩ := hg.fs.form
  obtain ⟨at_, ct, rfl, -, -, -⟩ := hg.ft.form
  obtain ⟨aw, cw, rfl, -, -, -⟩ := hg.fw.form
  obtain ⟨ab, cb, rfl, -, -, -⟩ := hg.fb.form
  have hgb := hg.box
  have hSr := hsm.lt
  have hkF : Kp (fun j => j = w.heap.size) wc (((((wc.setCell ⟨w.heap.size, 0, none⟩ (.slice ar lr.length cr)).setCell ⟨w.heap.size, 1, none⟩ (.slice as9 ls.length cs)).setCell ⟨w.heap.size, 2, none⟩ (.slice at_ lt.length ct)).setCell ⟨w.heap.size, 3, none⟩ (.slice aw lw.length cw)).setCell ⟨w.heap.size, 4, none⟩ (.slice ab lb.length cb)) := ((((((Kp.refl (fun j => j = w.heap.size) wc).setCell (p := ⟨w.heap.size, 0, none⟩) (.inl rfl) _).setCell (p := ⟨w.heap.size, 1, none⟩) (.inl rfl) _).setCell (p := ⟨w.heap.size, 2, none⟩) (.inl rfl) _).setCell (p := ⟨w.heap.size, 3, none⟩) (.inl rfl) _).setCell (p := ⟨w.heap.size, 4, none⟩) (.inl rfl) _)
  have hgF := (hg.kp hkF (fun j hj e => by omega)).mono (base2 := w.heap.size) (by omega)
  have hstF : Stp S w (((((wc.setCell ⟨w.heap.size, 0, none⟩ (.slice ar lr.length cr)).setCell ⟨w.heap.size, 1, none⟩ (.slice as9 ls.length cs)).setCell ⟨w.heap.size, 2, none⟩ (.slice at_ lt.length ct)).setCell ⟨w.heap.size, 3, none⟩ (.slice aw lw.length cw)).setCell ⟨w.heap.size, 4, none⟩ (.slice ab lb.length cb)) := (((((hst.setCell (p := ⟨w.heap.size, 0, none⟩) (.inr (Nat.le_refl _)) _).setCell (p := ⟨w.heap.size, 1, none⟩) (.inr (Nat.le_refl _)) _).setCell (p := ⟨w.heap.size, 2, none⟩) (.inr (Nat.le_refl _)) _).setCell (p := ⟨w.heap.size, 3, none⟩) (.inr (Nat.le_refl _)) _).setCell (p := ⟨w.heap.size, 4, none⟩) (.inr (Nat.le_refl _)) _)
  have hsF := hsm.kp hkF (fun j hj e => by omega)
  have HF := Lib.hid (And.intro hgF (And.intro hstF hsF))
  clear hgF hstF hsF hkF hg hst hsm
  have hgb_l := hgb.lt; have hgb_0 := hgb.cell 0; have hgb_1 := hgb.cell 1; have hgb_2 := hgb.cell 2; have hgb_3 := hgb.cell 3; have hgb_4 := hgb.cell 4; simp at hgb_0 hgb_1 hgb_2 hgb_3 hgb_4
  have hR_l := hR.lt; have hR_0 := hR.cell 0; have hR_1 := hR.cell 1; have hR_2 := hR.cell 2; have hR_3 := hR.cell 3; have hR_4 := hR.cell 4; simp at hR_0 hR_1 hR_2 hR_3 hR_4
  have hR_f0 := hR.frozen 0; have hR_f1 := hR.frozen 1; have hR_f2 := hR.frozen 2; have hR_f3 := hR.frozen 3; have hR_f4 := hR.frozen 4
  go_wp2_with fail
  refine bodyPost_ret (v := .agg #[.slice ar lr.length cr, .slice as9 ls.length cs, .slice at_ lt.length ct, .slice aw lw.length cw, .slice ab lb.length cb]) (by simp only [results, Tryz.results5]; go_simp) rfl ?_
  exact ⟨_, _, _, _, _, _, lr, ls, lt, lw, lb, rfl, HF.out.1, hlen, hro, hso, hto, hwo, hbo, HF.out.2.1, HF.out.2.2⟩
theorem grid_any (S : Nat) (B : Int) (nt nr ns : Nat) (w : World) (hs : Strm S B w) (hB : B ≤ 999800000) (h1 : nt ≤ 19) (h2 : nr ≤ 19) (h3 : ns ≤ 19) :
  Calls Tryz.prog 5 #[.pointer (some ⟨S, 0, none⟩), .int .i64 (nt : Nat), .int .i64 (nr : Nat), .int .i64 (ns : Nat)] w (fun e w' => ∃ gb vr vs vt vw vb lr ls lt lw lb, e = .returned (.agg #[vr, vs, vt, vw, vb]) ∧ GW w.heap.size gb vr vs vt vw vb lr ls lt lw lb w' ∧
   (lr.length ≤ 21 ∧ ls.length ≤ 21 ∧ lt.length ≤ 21 ∧ lw.length ≤ 21 ∧ lb.length ≤ 21) ∧ (∀ x ∈ lr, RomOk x) ∧ (∀ x ∈ ls, SltOk x) ∧ (∀ x ∈ lt, TlkOk x) ∧ (∀ x ∈ lw, WshOk x) ∧ (∀ x ∈ lb, BanOk x) ∧ Stp S w w' ∧ Strm S (B + 2100) w') :=
 (gridV_any S B nt nr ns w hs hB h1 h2 h3).mono fun e w' ⟨gb, vr, vs, vt, vw, vb, lr, ls, lt, lw, lb, q1, q2, q3, q4⟩ => ⟨gb, vr, vs, vt, vw, vb, lr, ls, lt, lw, lb, q1, q2, ⟨q3.1, q3.2.1, by have := q3.2.2.1; omega, q3.2.2.2⟩, q4⟩
end Go.Proofs.YtldgphhiajhfhaaGreatDoor
