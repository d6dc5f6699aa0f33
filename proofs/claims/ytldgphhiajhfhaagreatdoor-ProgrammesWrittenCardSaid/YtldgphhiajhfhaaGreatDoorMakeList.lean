/- Makers of lists of strings. -/
import Derived.Test.YtldgphhiajhfhaaGreatDoorList
namespace Go.Proofs.YtldgphhiajhfhaaGreatDoor
open Go.RowKit
set_option linter.unusedVariables false
set_option linter.unusedSimpArgs false

/-- A list of one's own is made, apart from the stream. -/
def SomeOwn {α : Type} [Cel α] (E : TypeId) (P : α → Prop) (S : Nat) (B : Int) (n : Nat) (w : World) (e : Ending) (w' : World) : Prop :=
 ∃ (v : Value) (l : List α), e = .returned v ∧ l.length ≤ n ∧ (∀ x ∈ l, P x) ∧ Own w.heap.size E w' v l ∧ Stp S w w' ∧ Strm S B w'
theorem all_snoc {α : Type} {P : α → Prop} {l : List α} {x : α} (h : ∀ y ∈ l, P y) (hx : P x) : ∀ y ∈ l ++ [x], P y := fun y hy => by
 rcases List.mem_append.1 hy with hy | hy
 ·
  exact h y hy
 ·
  rw [List.mem_singleton] at hy; subst hy; exact hx
def SmallS (x : ByteArray) : Prop := x.size ≤ 1000
theorem pick_box (S : Nat) (B : Int) (b T cap : Nat) (zs : List Int) (w : World) (hs : Strm S B w) (hB : B ≤ 1000000000) (hbox : Box w b T (zs.map (Value.int .i64)).toArray) (hbS : b ≠ S) (hl1 : 1 ≤ zs.length) (hl2 : zs.length ≤ 1000) :
  Calls Tryz.prog 16 #[.pointer (some ⟨S, 0, none⟩), .slice (some ⟨b, 0, none⟩) zs.length cap] w (fun e w' => SomePick S B zs w e w') :=
 pick_any S B b 0 zs.length cap zs w hs hB rfl hl1 hl2 hbox.lt hbS (fun i hi => by
  rw [Nat.zero_add, hbox.cell i]
  simp [List.getElem?_eq_getElem hi, List.getD_eq_getElem?_getD])
set_option maxRecDepth 100000 in
set_option maxHeartbeats 4000000 in
theorem some_any (S : Nat) (B odds : Int) (xs : List ByteArray) (a2 : Option Addr) (cap2 : Nat) (w : World) (hs : Strm S B w) (hB : B ≤ 999999000) (ho : 1 ≤ odds) (ho2 : odds ≤ 1000000) (hx : SA w a2 xs) (hxS : ∀ x : Addr, a2 = some x → x.block ≠ S) (hxl : xs.length ≤ 1000) (hsm : ∀ x ∈ xs, SmallS x) :
  Calls Tryz.prog 61 #[.pointer (some ⟨S, 0, none⟩), .int .i64 odds, .slice a2 xs.length cap2] w (SomeOwn 9 SmallS S (B + xs.length) xs.length w) := by
 have hS := hs.lt
 go_enter Tryz.func61, Tryz.ntmps61
 go_wp2_with fail
 go_loopg [7, 12] xs.length (fun gk v i wr => ∃ (k : Nat) (acc : List ByteArray), i = .int .i64 k ∧ k ≤ xs.length ∧ Hid (gk = xs.length - k) ∧ acc.length ≤ k ∧ Hid (∀ x ∈ acc, SmallS x) ∧ Own w.heap.size 9 wr v acc ∧ Stp S w wr ∧ Strm S (B + k) wr)
 case atStart => exact ⟨0, [], rfl, by omega, rfl, by simp, by simp [Hid], Own.nil _ _ _, Stp.refl _ _, by simpa using hs⟩
 case round =>
  clear hs
  obtain ⟨k, acc, rfl, hk, hgk, hal, hsa, hown, hst, hs⟩ := hrel
  have hz := hst.size
  have hSr := hs.lt
  by_cases hlt : k < xs.length
  ·
   obtain ⟨b, off, ha, c0⟩ := (hx.stp hst hxS).str hlt
   have hxk := hsm xs[k] (List.getElem_mem hlt)
   rw [ha]
   generalize xs[k] = x at *
   go_wp2_with fail
   refine (flip_any S (B + k) odds wr hs (by omega) ho (by omega)).mono ?_
   rintro e w1 ⟨r, rfl, h1, s1⟩
   have hst1 := hst.trans h1
   have hown1 := hown.stp h1 hS
   have hz1 := h1.size
   have hs1 : Strm S (B + (k + 1 : Nat)) w1 := s1.mono (by omega)
   clear h1 s1 hst hown hs c0
   cases r
   ·
    go_wp2_with fail
    rw [← ha]
    go_roundg (xs.length - (k + 1))
    case measure => have := hgk.out; omega
    case rel => exact ⟨k + 1, acc, by go_num, by omega, rfl, by omega, hsa, hown1, hst1, hs1⟩
   ·
    go_upto_region 7 with (at_builtin; refine wpList_append_one rfl _ _ 57 rfl w.heap.size 9 16 (.string ⟨#[]⟩) Tryz.underlying57 Tryz.infoString rfl _ acc rfl (hown1.alloc _) x _ rfl (Box.newAt _ _ _ _ ?c0) ?c1 ?c2 ?c3 ?_; rotate_left 4; intro v' w2 hown2 hg2)
    case c0 => rfl
    case c1 => omega
    case c2 => omega
    case c3 => simp; omega
    have s2 : Strm S (B + (k + 1 : Nat)) w2 := (hs1.alloc _).grown hg2 (fun k hk => by have := (hown1.lt k hk).1; omega)
    have h2 : Stp S w w2 := (hst1.alloc _).grown hg2 (fun k hk => .inr (by have := (hown1.lt k hk).1; omega))
    go_wp2_with fail
    rw [← ha]
    go_roundg (xs.length - (k + 1))
    case measure => have := hgk.out; omega
    case rel => exact ⟨k + 1, acc ++ [x], by go_num, by omega, rfl, by simp; omega, all_snoc hsa.out hxk, hown2, h2, s2⟩
  ·
   go_wp2_with fail
   go_ret
   exact ⟨_, acc, rfl, by omega, hsa.out, hown, hst, hs.mono (by omega)⟩
theorem SA.setOther {α : Type} [Cel α] {w : World} {a : Option Addr} {l : List α} (h : SA w a l) {p : Addr} (hp : ∀ x : Addr, a = some x → x.block ≠ p.block) (v : Value) : SA (w.setCell p v) a l := by
 rcases h with h | ⟨b, off, rfl, h⟩
 ·
  exact .inl h
 ·
  exact .inr ⟨b, off, rfl, h.same (Below.heap_setCell _ _ _ _ (hp _ rfl))⟩
end Go.Proofs.YtldgphhiajhfhaaGreatDoor
