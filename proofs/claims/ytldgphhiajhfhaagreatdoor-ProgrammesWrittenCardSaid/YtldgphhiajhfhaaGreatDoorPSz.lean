/- The text of a right programme is short; the maker ProgrammeText. -/
import Derived.Test.YtldgphhiajhfhaaGreatDoorStream
import Derived.Test.YtldgphhiajhfhaaGreatDoorList
import Derived.BigQuiet
import Derived.Test.YtldgphhiajhfhaaGreatDoorBase
import Derived.Test.YtldgphhiajhfhaaGreatDoorShelf
import Derived.Test.YtldgphhiajhfhaaGreatDoorCost
import Derived.Test.YtldgphhiajhfhaaGreatDoorMakeList
import Derived.RegionTactic
import Derived.ChangeAlike
import Derived.BigRegion
import Derived.Test.YtldgphhiajhfhaaGreatDoorOrd
import Derived.Test.YtldgphhiajhfhaaGreatDoorStrs
import Derived.Test.YtldgphhiajhfhaaGreatDoorKeep
import Derived.Deep.RegionLaw
import Derived.Test.YtldgphhiajhfhaaGreatDoorPlan1
import Derived.Test.YtldgphhiajhfhaaGreatDoorMakeGrid2
namespace Go.Proofs.YtldgphhiajhfhaaGreatDoor
open Go.RowKit
set_option linter.unusedVariables false
set_option linter.unusedSimpArgs false
/-- Some text of at most m bytes. -/
def SomeTxt (S : Nat) (B : Int) (m : Nat) (w : World) (e : Ending) (w' : World) : Prop :=
 ∃ x : ByteArray, x.size ≤ m ∧ e = .returned (.string x) ∧ Stp S w w' ∧ Strm S B w'
theorem tl_nil {t : ByteArray} (h : ¬ t.size = 0) : ¬ t.toList = [] := fun e => h (by
 have e2 : t = ⟨#[]⟩ := toList_inj.1 (by rw [e, ByteArray.toList_eq])
 rw [e2]; rfl)
set_option maxRecDepth 100000 in
set_option maxHeartbeats 2000000 in
theorem changed_any (S : Nat) (B : Int) (t u : ByteArray) (w : World) (hs : Strm S B w) (hB : B ≤ 999990000) (ht : t.size ≤ 1000000) (hu : u.size ≤ 1000000) :
  Calls Tryz.prog 31 #[.pointer (some ⟨S, 0, none⟩), .string t, .string u] w (SomeTxt S (B + 3) (t.size + u.size + 4) w) := by
 by_cases ht0 : t.size = 0
 ·
  obtain rfl : t = ⟨#[]⟩ := by
   obtain ⟨d⟩ := t
   have : d.size = 0 := ht0
   rw [Array.eq_empty_of_size_eq_zero this]
  go_enter Tryz.func31, Tryz.ntmps31
  go_wp2_with fail
  go_ret
  exact ⟨u, by omega, rfl, Stp.refl _ _, hs.mono (by omega)⟩
 ·
  by_cases hu0 : u.size = 0
  ·
   obtain rfl : u = ⟨#[]⟩ := by
    obtain ⟨d⟩ := u
    have : d.size = 0 := hu0
    rw [Array.eq_empty_of_size_eq_zero this]
   have e1 := tl_nil ht0
   go_enter Tryz.func31, Tryz.ntmps31
   go_wp2_with fail
   go_ret
   exact ⟨_, by omega, rfl, Stp.refl _ _, hs.mono (by omega)⟩
  ·
   have e1 := tl_nil ht0
   have e2 := tl_nil hu0
   have e3 : t.toList.isEmpty = false := by simpa using e1
   have e4 : u.toList.isEmpty = false := by simpa using e2
   go_enter Tryz.func31, Tryz.ntmps31
   go_wp2_with fail
   refine (next_any S B t.size _ hs (by omega) (by omega) (by omega)).mono ?_
   rintro e w1 ⟨r, ⟨hr, hr2⟩, rfl, h1, s1⟩
   obtain ⟨i, rfl⟩ := Int.eq_ofNat_of_zero_le hr
   go_wp2_with fail
   refine (next_any S (B + 1) u.size _ s1 (by omega) (by omega) (by omega)).mono ?_
   rintro e w2 ⟨r, ⟨hk, hk2⟩, rfl, h2, s2⟩
   obtain ⟨k, rfl⟩ := Int.eq_ofNat_of_zero_le hk
   go_wp2_with fail
   refine (next_any S (B + 1 + 1) 3 _ s2 (by omega) (by omega) (by omega)).mono ?_
   rintro e w3 ⟨r, ⟨hr3, hr4⟩, rfl, h3, s3⟩
   have hst := (h1.trans h2).trans h3
   have hil : i < t.size := by omega
   have hkl : k < u.size := by omega
   have hi0 : (0 : Int) ≤ (i : Int) := hr
   have hi1 : (i : Int) ≤ (t.size : Int) := by omega
   have hi2 : (0 : Int) ≤ (i : Int) + 1 := by omega
   have hi3 : (i : Int) + 1 ≤ (t.size : Int) := by omega
   have hw1 : IntKind.i64.wrap ((i : Int) + 1) = (i : Int) + 1 := IntWalk.i64_in _ (by omega)
   have hc256 := UInt8.toNat_lt u[k]
   clear h1 h2 h3 s1 s2 hs
   by_cases r0 : r = 0
   ·
    subst r0
    go_upto_region 7 with (fail)
    generalize u[k].toNat = c at *
    have hw2 : IntKind.i32.wrap (c : Int) = (c : Int) := IntWalk.i32_in _ (by omega)
    obtain ⟨x, hx, hcx⟩ : ∃ x : ByteArray, x.size ≤ 4 ∧ ∀ W, (convert 21 9 (.int .i32 (c : Int))).run Tryz.prog W = .ok (.string x) W := ⟨_, encode_size_le _, fun W => run_convert_int_string W _ _ _ _ (by kernel_rfl) Tryz.underlying9⟩
    go_quiet (fail)
    go_wp2_with fail
    go_ret
    refine ⟨_, ?_, rfl, hst.drewN _, (s3.drewN _).mono (by omega)⟩
    simp
    omega
   ·
    by_cases r1 : r = 1
    ·
     subst r1
     go_upto_region 9 with (fail)
     generalize u[k].toNat = c at *
     have hw2 : IntKind.i32.wrap (c : Int) = (c : Int) := IntWalk.i32_in _ (by omega)
     obtain ⟨x, hx, hcx⟩ : ∃ x : ByteArray, x.size ≤ 4 ∧ ∀ W, (convert 21 9 (.int .i32 (c : Int))).run Tryz.prog W = .ok (.string x) W := ⟨_, encode_size_le _, fun W => run_convert_int_string W _ _ _ _ (by kernel_rfl) Tryz.underlying9⟩
     go_quiet (fail)
     go_wp2_with fail
     go_ret
     refine ⟨_, ?_, rfl, hst.drewN _, (s3.drewN _).mono (by omega)⟩
     simp
     omega
    ·
     go_upto_region 10 with (fail)
     go_quiet (fail)
     go_wp2_with fail
     go_ret
     refine ⟨_, ?_, rfl, hst.drewN _, (s3.drewN _).mono (by omega)⟩
     simp
     omega
end Go.Proofs.YtldgphhiajhfhaaGreatDoor
namespace Go.Proofs.YtldgphhiajhfhaaGreatDoor
open Go.RowKit
set_option linter.unusedVariables false
set_option linter.unusedSimpArgs false
/-- The builder at block b holds these bytes; what it writes lies at base or behind. -/
def Bld (base b : Nat) (l : List UInt8) (w : World) : Prop := Lib.IsBuilder 72 5 base b (Lib.byteCells l) w
theorem Bld.new (w : World) : Bld w.heap.size w.heap.size [] (w.alloc (.cells #[.pointer none, .slice none 0 0] 72)) := Lib.fresh_isBuilder _ _ w
theorem ownsRow_far {w w' : World} {base : Nat} {e : TypeId} {k : Nat} {v : Value} {n : Nat} {xs : List Value} (h : w.ownsRow base e k v n xs) (hb : Below w.heap.size w w') : w'.ownsRow base e k v n xs := by
 obtain ⟨h1, h2⟩ := h
 refine ⟨h1, ?_⟩
 rcases h2 with h2 | ⟨g, cap, cur, rfl, r1, r2, r3⟩
 ·
  exact .inl h2
 ·
  exact .inr ⟨g, cap, cur, rfl, r1, (hb.block g (Array.getElem?_eq_some_iff.1 r2).1).trans r2, r3⟩
theorem Bld.below {base b : Nat} {l : List UInt8} {w w' : World} (h : Bld base b l w) (hb : Below w.heap.size w w') : Bld base b l w' := by
 rcases h with ⟨h1, v, h2, h3, h4⟩ | ⟨h1, v, h2, h3, h4⟩
 ·
  exact .inl ⟨h1, v, (hb.block b (Array.getElem?_eq_some_iff.1 h2).1).trans h2, ownsRow_far h3 hb, h4⟩
 ·
  exact .inr ⟨h1, v, (hb.block b (Array.getElem?_eq_some_iff.1 h2).1).trans h2, ownsRow_far h3 hb, h4⟩
theorem Bld.buf {base b : Nat} {l : List UInt8} {w : World} (h : Bld base b l w) : ∀ v, w.cell? ⟨b, 1, none⟩ = some v → ∀ j, v.ownBlock = some j → j < w.heap.size := fun v hv j hj => by
 obtain ⟨p, -, u, h2, h3, -⟩ : ∃ p, Lib.BuilderAt 72 5 base b p (Lib.byteCells l) w := by
  rcases h with h | h
  ·
   exact ⟨_, h⟩
  ·
   exact ⟨_, h⟩
 have : w.cell? ⟨b, 1, none⟩ = some u := by rw [Lib.cell_of_heap h2]; rfl
 rw [this] at hv
 cases hv
 exact (h3.lt j hj).2
theorem Bld.lt {base b : Nat} {l : List UInt8} {w : World} (h : Bld base b l w) : b < w.heap.size := by
 obtain ⟨p, -, u, h2, -, -⟩ : ∃ p, Lib.BuilderAt 72 5 base b p (Lib.byteCells l) w := by
  rcases h with h | h
  ·
   exact ⟨_, h⟩
  ·
   exact ⟨_, h⟩
 exact (Array.getElem?_eq_some_iff.1 h2).1
/-- A block that was made just now is no part of the builder. -/
theorem Bld.fresh {base b : Nat} {l : List UInt8} {w : World} (h : Bld base b l w) (o : Obj) : w.heap.size < (w.alloc o).heap.size ∧ w.heap.size ≠ b ∧ ∀ v, (w.alloc o).cell? ⟨b, 1, none⟩ = some v → v.ownBlock ≠ some w.heap.size := by
 have hl := h.lt
 refine ⟨by simp, by omega, fun v hv e => ?_⟩
 rw [World.cell?_of_block (w := w) (a := ⟨b, 1, none⟩) (Below.heap_alloc _ _ _ hl)] at hv
 have := h.buf v hv _ e
 omega
theorem Bld.alloc {base b : Nat} {l : List UInt8} {w : World} (h : Bld base b l w) (o : Obj) : Bld base b l (w.alloc o) := h.below ((Below.refl _ _).alloc (Nat.le_refl _) o)
theorem bldStr_any (base b : Nat) (l : List UInt8) (w : World) (h : Bld base b l w) (hbw : base ≤ w.heap.size) :
  Calls Tryz.prog 29 #[.pointer (some ⟨b, 0, none⟩)] w fun e w' => e = .returned (.string ⟨l.toArray⟩) ∧ Below base w w' := Tryz.Builder_String_any base b l w h hbw
theorem bldLen_any (base b : Nat) (l : List UInt8) (w : World) (h : Bld base b l w) :
  Calls Tryz.prog 28 #[.pointer (some ⟨b, 0, none⟩)] w fun e w' => e = .returned (.int .i64 l.length) ∧ w' = w := by
 have := Tryz.Builder_Len base b (Lib.byteCells l) w h
 rw [show (Lib.byteCells l).length = l.length from by simp [Lib.byteCells]] at this
 exact this
theorem sizeB : (Tryz.prog.info? 72).map (·.size) = some 2 := by kernel_rfl
set_option maxHeartbeats 1000000 in
set_option maxRecDepth 100000 in
/-- The check of a builder: behind it, its first field tells its own address. -/
theorem copyCheck_any (base b : Nat) (l : List UInt8) (w : World) (h : Bld base b l w) :
  Calls Tryz.prog 67 #[.pointer (some ⟨b, 0, none⟩)] w fun e w' => e = .returned (.tuple #[]) ∧ Lib.BuilderAt 72 5 base b (.pointer (some ⟨b, 0, none⟩)) (Lib.byteCells l) w' ∧ Below base w w' ∧ (∀ n, n ≠ b → w'.heap[n]? = w.heap[n]?) ∧ w'.cell? ⟨b, 1, none⟩ = w.cell? ⟨b, 1, none⟩ := by
 obtain ⟨j, hj, hjs⟩ := Option.map_eq_some_iff.1 sizeB
 rcases h with h | h
 ·
  have h0 := h.cell0
  have hf := h.frozen0
  have r1 := Lib.run_to_unsafe (P := Tryz.prog) w ⟨b, 0, none⟩ Tryz.underlying69 Tryz.underlying182 hj (by rw [hjs]; decide) h.shape (Nat.zero_lt_succ 1)
  have r2 := run_callFunc_extern Tryz.func123 (by kernel_rfl) (by kernel_rfl) (by kernel_rfl) (e := Extern.AbiNoEscape.same) (by kernel_rfl) #[.pointer (some ⟨b, 0, none⟩)] w
  have r3 := Lib.run_from_unsafe (P := Tryz.prog) w ⟨b, 0, none⟩ Tryz.underlying182 Tryz.underlying69 hj h.shape (by kernel_rfl)
  have r4 := Lib.run_neq_ptr_same (P := Tryz.prog) (w.setCell ⟨b, 0, none⟩ (.pointer (some ⟨b, 0, none⟩))) ⟨b, 0, none⟩ Tryz.underlying69 hj
  rw [Lib.run_noEscape] at r2
  go_enter Tryz.func67, Tryz.ntmps67
  go_wp2_with fail
  go_end0
  refine ⟨rfl, h.used _, (Below.refl base w).setCell (p := ⟨b, 0, none⟩) h.1 _, fun n hn => Below.heap_setCell _ _ _ _ hn, ?_⟩
  obtain ⟨-, v, h2, -, -⟩ := h
  have hX : Box w b 72 #[.pointer none, v] := h2
  rw [(hX.set 0 (.pointer (some ⟨b, 0, none⟩))).cell 1, hX.cell 1]
  rfl
 ·
  have h0 := h.cell0
  have r4 := Lib.run_neq_ptr_same (P := Tryz.prog) w ⟨b, 0, none⟩ Tryz.underlying69 hj
  go_enter Tryz.func67, Tryz.ntmps67
  go_wp2_with fail
  go_end0
  exact ⟨rfl, h, Below.refl _ _, fun _ _ => rfl, rfl⟩
theorem infoByteB : (Tryz.prog.info? 5).map (fun i => (i.zero, i.size, i.bytes)) = some (some (.int .u8 0), 1, 1) := by kernel_rfl
set_option maxHeartbeats 2000000 in
set_option maxRecDepth 100000 in
theorem writeStr_any (base b : Nat) (l : List UInt8) (s : ByteArray) (w : World) (h : Bld base b l w) (hl : l.length + s.size ≤ 100000000) (hbw : base ≤ w.heap.size) :
  Calls Tryz.prog 27 #[.pointer (some ⟨b, 0, none⟩), .string s] w fun e w' => e = .returned (.tuple #[.int .i64 s.size, .nilIface]) ∧ Bld base b (l ++ s.data.toList) w' ∧ Below base w w' ∧ ∀ n, n < w.heap.size → n ≠ b → (∀ v, w.cell? ⟨b, 1, none⟩ = some v → v.ownBlock ≠ some n) → w'.heap[n]? = w.heap[n]? := by
 obtain ⟨i0, hi, hz0, hz1, hz2⟩ := info_parts infoByteB
 go_enter Tryz.func27, Tryz.ntmps27
 go_wp2_with fail
 refine (copyCheck_any base b l _ h).mono ?_
 rintro e w1 ⟨rfl, ⟨hB, v, hbk, hown, hne⟩, hb1, hfar, hsm⟩
 have hz1' := hb1.size
 have Hsm := Lib.hid hsm
 have Hfar := Lib.hid hfar
 clear hsm hfar
 have c1 : w1.cell? ⟨b, 1, none⟩ = some v := by rw [Lib.cell_of_heap hbk]; rfl
 have hlt : b < w1.heap.size := World.block_lt_of_cell? w1 _ c1
 have hlb : (Lib.byteCells l).length = l.length := by simp [Lib.byteCells]
 go_wp2_with (at_builtin; refine Lib.wpList_append_own_string _ rfl _ _ 70 9 rfl base 5 i0 Tryz.underlying70 Tryz.underlying9 hi hz0 hz1 hz2 _ _ _ rfl hown s rfl ?c3 ?c4 ?c5 ?_)
 case c3 => rw [hlb]; unfold maxLen; omega
 case c4 => rw [hlb]; omega
 case c5 => omega
 intro v2 w2 hown2 hg2 _
 have hb2 : w2.heap[b]? = some (.cells #[.pointer (some ⟨b, 0, none⟩), v] 72 (0, 0)) := by rw [hg2.block b hlt (fun e => hne e.symm)]; exact hbk
 have d1 : w2.cell? ⟨b, 1, none⟩ = some v := by rw [Lib.cell_of_heap hb2]; rfl
 have f1 : w2.frozen? ⟨b, 1, none⟩ = false := Lib.frozen_of_heap hb2 1
 obtain ⟨ao, n', cap, rfl⟩ : ∃ ao n' cap, v2 = .slice ao n' cap := by
  rcases hown2.2 with ⟨hv, _⟩ | ⟨g, cap, cur, hv, _⟩
  ·
   exact ⟨_, _, _, hv⟩
  ·
   exact ⟨_, _, _, hv⟩
 go_wp2_with fail
 go_ret2
 refine ⟨rfl, ?_, (hb1.grown hg2 (by omega) (fun k hk => (hown.lt k hk).1)).setCell (p := ⟨b, 1, none⟩) hB _, fun n hn hnb hnv => ?_⟩
 rotate_left 1
 ·
  rw [Below.heap_setCell _ _ _ _ hnb, hg2.block n (by omega) (fun e => hnv v (by rw [← Hsm.out, c1]) e.symm), Hfar.out n hnb]
 refine .inr ?_
 have e1 : Lib.byteCells (l ++ s.data.toList) = Lib.byteCells l ++ Lib.strCells s := by simp [Lib.byteCells, Lib.strCells]
 have e2 : (Lib.byteCells l ++ Lib.strCells s).length = l.length + s.size := by rw [List.length_append, hlb, Lib.strCells_length]
 refine Lib.BuilderAt.put (T := 72) (e := 5) (v' := .slice ao n' cap) hB hb2 (bs' := Lib.byteCells (l ++ s.data.toList)) ?_ (by decide)
 rw [e1, e2]
 exact hown2
end Go.Proofs.YtldgphhiajhfhaaGreatDoor
namespace Go.Proofs.YtldgphhiajhfhaaGreatDoor
open Go.RowKit
set_option linter.unusedVariables false
set_option linter.unusedSimpArgs false
/-- The line of a paper, of a session; the text. -/
def papT (x : ByteArray) : List UInt8 := [32, 32] ++ x.data.toList ++ [10]
def headT (a b : ByteArray) : List UInt8 := [115, 101, 115, 115, 105, 111, 110, 32] ++ a.data.toList ++ [32] ++ b.data.toList ++ [10]
def papsT (l : List ByteArray) : List UInt8 := l.flatMap papT
def sesT (s : Ses) : List UInt8 := headT s.slot s.room ++ papsT s.papers
def progT (p : List Ses) : List UInt8 := p.flatMap sesT
theorem papsT_snoc (l : List ByteArray) (x : ByteArray) : papsT (l ++ [x]) = papsT l ++ papT x := by unfold papsT; simp
theorem progT_snoc (p : List Ses) (s : Ses) : progT (p ++ [s]) = progT p ++ sesT s := by unfold progT; simp
theorem papsT_take {l : List ByteArray} {k : Nat} (h : k < l.length) : papsT (l.take (k + 1)) = papsT (l.take k) ++ papT l[k] := by rw [List.take_succ_eq_append_getElem h, papsT_snoc]
theorem progT_take {p : List Ses} {k : Nat} (h : k < p.length) : progT (p.take (k + 1)) = progT (p.take k) ++ sesT p[k] := by rw [List.take_succ_eq_append_getElem h, progT_snoc]
theorem papsT_le (l : List ByteArray) (k : Nat) : (papsT (l.take k)).length ≤ (papsT l).length := by
 have h : papsT l = papsT (l.take k) ++ papsT (l.drop k) := by unfold papsT; rw [← List.flatMap_append, List.take_append_drop]
 rw [h, List.length_append]; omega
theorem progT_le (p : List Ses) (k : Nat) : (progT (p.take k)).length ≤ (progT p).length := by
 have h : progT p = progT (p.take k) ++ progT (p.drop k) := by unfold progT; rw [← List.flatMap_append, List.take_append_drop]
 rw [h, List.length_append]; omega
theorem head_bytes (a b : ByteArray) : ((((⟨#[115, 101, 115, 115, 105, 111, 110, 32]⟩ : ByteArray) ++ a) ++ ⟨#[32]⟩) ++ b ++ ⟨#[10]⟩).data.toList = headT a b := by
 unfold headT
 simp [ByteArray.data_append]
theorem pap_bytes (x : ByteArray) : (((⟨#[32, 32]⟩ : ByteArray) ++ x) ++ ⟨#[10]⟩).data.toList = papT x := by
 unfold papT
 simp [ByteArray.data_append]
theorem ba_len (x : ByteArray) : x.size = x.data.toList.length := by show x.data.size = _; simp
theorem head_size (a b : ByteArray) : ((((⟨#[115, 101, 115, 115, 105, 111, 110, 32]⟩ : ByteArray) ++ a) ++ ⟨#[32]⟩) ++ b ++ ⟨#[10]⟩).size = (headT a b).length := by rw [← head_bytes]; exact ba_len _
theorem pap_size (x : ByteArray) : (((⟨#[32, 32]⟩ : ByteArray) ++ x) ++ ⟨#[10]⟩).size = (papT x).length := by rw [← pap_bytes]; exact ba_len _
theorem headT_len (a b : ByteArray) : (headT a b).length = a.size + b.size + 10 := by unfold headT; rw [ba_len a, ba_len b]; simp; omega
theorem papT_len (x : ByteArray) : (papT x).length = x.size + 3 := by unfold papT; rw [ba_len x]; simp
theorem papsT_many : ∀ l : List ByteArray, l.length ≤ (papsT l).length
 | [] => Nat.zero_le _
 | x :: r => by
  have ih := papsT_many r
  have := papT_len x
  have e : papsT (x :: r) = papT x ++ papsT r := by unfold papsT; simp
  rw [e, List.length_append, List.length_cons]; omega
theorem Below.join {n : Nat} {a b c : World} (h : Below n a b) (k : Below n b c) : Below n a c := h.trans k
set_option maxRecDepth 100000 in
set_option maxHeartbeats 4000000 in
theorem progText_any (p : List Ses) (pa : Option Addr) (pc : Nat) (w : World) (hp : PRg w pa p) (hpl : p.length ≤ 1000000) (hn : (progT p).length ≤ 10000000) :
  Calls Tryz.prog 9 #[.slice pa p.length pc] w (Gives (.string ⟨(progT p).toArray⟩) w) := by
 have HP := Lib.hid (fun W (h : Below w.heap.size w W) => hp.below h)
 clear hp
 go_enter Tryz.func9, Tryz.ntmps9
 go_upto_region 2 with (fail)
 have hB0 := Bld.new w
 have hb0 : Below w.heap.size w (w.alloc (.cells #[.pointer none, .slice none 0 0] 72)) := (Below.refl _ _).alloc (Nat.le_refl _) _
 generalize w.alloc (.cells #[.pointer none, .slice none 0 0] 72) = w0 at *
 obtain ⟨b, hb⟩ : ∃ b, b = w.heap.size := ⟨_, rfl⟩
 have Hb := Lib.hid hb
 rw [← hb]
 rw [← hb] at hB0 hb0 HP
 clear hb
 have hs0 : b ≤ w0.heap.size := by have := hb0.size; have := Hb.out; omega
 go_wp2_with fail
 go_loopg [10] p.length (fun gk iv wr => ∃ k : Nat, iv = .int .i64 k ∧ k ≤ p.length ∧ Hid (gk = p.length - k) ∧ Bld b b (progT (p.take k)) wr ∧ Below b w wr ∧ b ≤ wr.heap.size)
 case atStart => exact ⟨0, rfl, by omega, rfl, hB0, hb0, hs0⟩
 case round =>
  clear hB0 hb0 hs0
  obtain ⟨k, rfl, hk, hgk, hB, hb, hs⟩ := hrel
  by_cases hlt : k < p.length
  ·
   obtain ⟨sb, sf, ha, c0, c1, c2⟩ := (HP.out _ hb).list.sesC hlt
   have HPS := Lib.hid (fun W (h : Below b w W) => (HP.out W h).papers p[k] (List.getElem_mem hlt))
   have htk := progT_take hlt
   have hln := progT_le p (k + 1)
   rw [htk, List.length_append] at hln
   have Htk := Lib.hid htk
   have Ha := Lib.hid ha
   rw [ha]
   clear ha htk
   generalize p[k] = s at *
   obtain ⟨s1, s2, s3, s4, s5⟩ := s
   simp only at c0 c1 c2 HPS
   have hln2 : (progT (p.take k)).length + ((headT s1 s2).length + (papsT s3).length) ≤ 10000000 := by
    have e : (sesT ⟨s1, s2, s3, s4, s5⟩).length = (headT s1 s2).length + (papsT s3).length := by unfold sesT; rw [List.length_append]
    omega
   have hfr := hB.fresh (.cells #[.string s1, .string s2, .slice s4 s3.length s5] 67)
   have hX := Box.new wr 67 #[.string s1, .string s2, .slice s4 s3.length s5]
   have hB1 := hB.alloc (.cells #[.string s1, .string s2, .slice s4 s3.length s5] 67)
   have hb1 := hb.alloc hs (.cells #[.string s1, .string s2, .slice s4 s3.length s5] 67)
   have Htk2 : Hid (progT (p.take (k + 1)) = progT (p.take k) ++ headT s1 s2 ++ papsT s3) := by
    show _ = _
    rw [Htk.out, List.append_assoc]; rfl
   have hz1 : s1.size ≤ 10000000 := by have := headT_len s1 s2; omega
   have hz2 : s2.size ≤ 10000000 := by have := headT_len s1 s2; omega
   clear Htk hln hB
   generalize progT (p.take k) = L at *
   go_wp2_with fail
   refine (writeStr_any b b L _ _ hB1 ?h1 ?h2).mono ?_
   case h1 => rw [head_size]; omega
   case h2 => simp; omega
   rintro e w5 ⟨rfl, hB5, hb5, hf5⟩
   rw [head_bytes] at hB5
   have hx2 : w5.cell? ⟨wr.heap.size, 2, none⟩ = some (.slice s4 s3.length s5) := (hX.same (hf5 _ hfr.1 hfr.2.1 hfr.2.2)).cell 2
   have hb6 := Below.join hb1 hb5
   have hs6 : b ≤ w5.heap.size := by have := hb5.size; simp at this; omega
   have hsp := HPS.out _ hb6
   clear hf5 hfr hX hB1 hb1 hb5 hb hs
   generalize wr.heap.size = nb at *
   have hpn : (papsT s3).length ≤ 10000000 := by omega
   have hsn : s3.length ≤ 10000000 := by have := papsT_many s3; omega
   go_wp2_with fail
   clear hx2 c0 c1 c2
   go_loopg [26] s3.length (fun gk jv wr => ∃ j : Nat, jv = .int .i64 j ∧ j ≤ s3.length ∧ Hid (gk = s3.length - j) ∧ Bld b b (L ++ headT s1 s2 ++ papsT (s3.take j)) wr ∧ Below b w wr ∧ b ≤ wr.heap.size)
   case atStart => exact ⟨0, rfl, by omega, rfl, by rw [List.take_zero, show papsT [] = [] from rfl, List.append_nil]; exact hB5, hb6, hs6⟩
   case round =>
    clear hB5 hb6 hs6 hsp
    obtain ⟨j, rfl, hj, hgj, hB, hb, hs⟩ := hrel
    by_cases hjl : j < s3.length
    ·
     obtain ⟨qb, qo, hqa, f0⟩ := (HPS.out _ hb).str hjl
     have hpk := papsT_take hjl
     have hpl2 := papsT_le s3 (j + 1)
     rw [hpk, List.length_append] at hpl2
     have Hpk := Lib.hid hpk
     have Hqa := Lib.hid hqa
     rw [hqa]
     clear hpk hqa
     generalize s3[j] = x at *
     have hl4 : (L ++ headT s1 s2 ++ papsT (s3.take j)).length + (papT x).length ≤ 10000000 := by rw [List.length_append, List.length_append]; omega
     have hz3 : x.size ≤ 10000000 := by have := papT_len x; omega
     go_wp2_with fail
     refine (writeStr_any b b _ _ _ hB ?h1 hs).mono ?_
     case h1 => rw [pap_size]; omega
     rintro e w6 ⟨rfl, hB6, hb7, -⟩
     rw [pap_bytes, List.append_assoc, ← Hpk.out] at hB6
     have hb8 := Below.join hb hb7
     have hs8 : b ≤ w6.heap.size := Nat.le_trans hs hb7.size
     clear hb hb7 hB hs f0 hl4 hpl2 Hpk
     go_wp2_with fail
     rw [← Hqa.out]
     go_roundg (s3.length - (j + 1))
     case measure => have := hgj.out; omega
     case rel => exact ⟨j + 1, by go_num, by omega, rfl, hB6, hb8, hs8⟩
    ·
     obtain rfl : j = s3.length := by omega
     rw [List.take_length, ← Htk2.out] at hB
     go_wp2_with fail
     rw [← Ha.out]
     go_roundg (p.length - (k + 1))
     case measure => have := hgk.out; omega
     case rel => exact ⟨k + 1, by go_num, by omega, rfl, hB, hb, hs⟩
  ·
   obtain rfl : k = p.length := by omega
   rw [List.take_length] at hB
   go_wp2_with fail
   refine (bldStr_any b b _ _ hB hs).mono ?_
   rintro e w5 ⟨rfl, hb5⟩
   have hb6 := Below.join hb hb5
   go_wp2_with fail
   go_ret
   exact ⟨rfl, by rw [← Hb.out]; exact hb6⟩
set_option maxRecDepth 100000 in
set_option maxHeartbeats 4000000 in
theorem print_any (g : Grd) (p : List Ses) (pa : Option Addr) (pc : Nat) (w : World) (hg : GRd w g) (hz : GSm g) (hp : PRg w pa p) (hpl : p.length ≤ 1000000) (hpo : ∀ s ∈ p, SesOk s) (hpc : p.length ≤ pc) (hn : bothF g p = 0 → (progT p).length ≤ 200000) :
  Calls Tryz.prog 7 #[g.agg, .slice pa p.length pc] w (Gives (.tuple #[.string (if bothF g p = 0 then ⟨(progT p).toArray⟩ else ⟨#[]⟩), .int .i64 (bothF g p)]) w) := by
 have HC := Lib.hid (fun W (h : Below w.heap.size w W) => checkP_any g p pa pc W (hg.below h) hz (hp.below h) hpl hpo hpc)
 have HP0 := Lib.hid (fun W (h : Below w.heap.size w W) => hp.below h)
 have HN := Lib.hid hn
 have HV1 : Hid (bothF g p = 0 → (if bothF g p = 0 then (⟨(progT p).toArray⟩ : ByteArray) else ⟨#[]⟩) = ⟨(progT p).toArray⟩) := fun h => if_pos h
 have HV2 : Hid (¬ bothF g p = 0 → (if bothF g p = 0 then (⟨(progT p).toArray⟩ : ByteArray) else ⟨#[]⟩) = ⟨#[]⟩) := fun h => if_neg h
 generalize (if bothF g p = 0 then (⟨(progT p).toArray⟩ : ByteArray) else ⟨#[]⟩) = vs at *
 generalize bothF g p = R at *
 clear hg hz hp hpo hn
 rw [Grd.agg_eq] at HC ⊢
 have hX := Box.new w 32 #[.slice g.ra g.rooms.length g.rc, .slice g.sa g.slots.length g.sc, .slice g.ta g.talks.length g.tc, .slice g.wa g.wishes.length g.wc, .slice g.ba g.bans.length g.bc]
 have hb0 : Below w.heap.size w (w.alloc (.cells #[.slice g.ra g.rooms.length g.rc, .slice g.sa g.slots.length g.sc, .slice g.ta g.talks.length g.tc, .slice g.wa g.wishes.length g.wc, .slice g.ba g.bans.length g.bc] 32)) := (Below.refl _ _).alloc (Nat.le_refl _) _
 go_enter Tryz.func7, Tryz.ntmps7
 go_upto_region 1 with (fail)
 generalize w.alloc (.cells #[.slice g.ra g.rooms.length g.rc, .slice g.sa g.slots.length g.sc, .slice g.ta g.talks.length g.tc, .slice g.wa g.wishes.length g.wc, .slice g.ba g.bans.length g.bc] 32) = w1 at *
 have hX_l := hX.lt; have hX_0 := hX.cell 0; have hX_1 := hX.cell 1; have hX_2 := hX.cell 2; have hX_3 := hX.cell 3; have hX_4 := hX.cell 4; simp at hX_0 hX_1 hX_2 hX_3 hX_4
 go_wp2_with fail
 clear hX_l hX_0 hX_1 hX_2 hX_3 hX_4
 refine (HC.out _ hb0).mono ?_
 rintro e w2 ⟨rfl, hb1⟩
 replace hb1 := below_next hb0 hb1
 clear HC hb0 hX
 by_cases h0 : R = 0
 ·
  subst h0
  have hvs := HV1.out rfl
  subst hvs
  have hnn := HN.out rfl
  clear HV1 HV2
  have hn : (progT p).length ≤ 10000000 := by omega
  clear HN
  go_upto_region 5 with (fail)
  have hB0 := Bld.new w2
  have hb0 : Below w2.heap.size w2 (w2.alloc (.cells #[.pointer none, .slice none 0 0] 72)) := (Below.refl _ _).alloc (Nat.le_refl _) _
  have HP : Hid (∀ W, Below w2.heap.size w2 W → PRg W pa p) := fun W h => HP0.out W (below_next hb1 h)
  generalize w2.alloc (.cells #[.pointer none, .slice none 0 0] 72) = w0 at *
  obtain ⟨b, hb⟩ : ∃ b, b = w2.heap.size := ⟨_, rfl⟩
  have Hb := Lib.hid hb
  rw [← hb]
  rw [← hb] at hB0 hb0 HP
  clear hb HP0
  have hs0 : b ≤ w0.heap.size := by have := hb0.size; have := Hb.out; omega
  go_wp2_with fail
  go_loopg [20] p.length (fun gk iv wr => ∃ k : Nat, iv = .int .i64 k ∧ k ≤ p.length ∧ Hid (gk = p.length - k) ∧ Bld b b (progT (p.take k)) wr ∧ Below b w2 wr ∧ b ≤ wr.heap.size)
  case atStart => exact ⟨0, rfl, by omega, rfl, hB0, hb0, hs0⟩
  case round =>
   clear hB0 hb0 hs0
   obtain ⟨k, rfl, hk, hgk, hB, hb, hs⟩ := hrel
   by_cases hlt : k < p.length
   ·
    obtain ⟨sb, sf, ha, c0, c1, c2⟩ := (HP.out _ hb).list.sesC hlt
    have HPS := Lib.hid (fun W (h : Below b w2 W) => (HP.out W h).papers p[k] (List.getElem_mem hlt))
    have htk := progT_take hlt
    have hln := progT_le p (k + 1)
    rw [htk, List.length_append] at hln
    have Htk := Lib.hid htk
    have Ha := Lib.hid ha
    rw [ha]
    clear ha htk
    generalize p[k] = s at *
    obtain ⟨s1, s2, s3, s4, s5⟩ := s
    simp only at c0 c1 c2 HPS
    have hln2 : (progT (p.take k)).length + ((headT s1 s2).length + (papsT s3).length) ≤ 10000000 := by
     have e : (sesT ⟨s1, s2, s3, s4, s5⟩).length = (headT s1 s2).length + (papsT s3).length := by unfold sesT; rw [List.length_append]
     omega
    have hfr := hB.fresh (.cells #[.string s1, .string s2, .slice s4 s3.length s5] 67)
    have hX := Box.new wr 67 #[.string s1, .string s2, .slice s4 s3.length s5]
    have hB1 := hB.alloc (.cells #[.string s1, .string s2, .slice s4 s3.length s5] 67)
    have hb1 := hb.alloc hs (.cells #[.string s1, .string s2, .slice s4 s3.length s5] 67)
    have Htk2 : Hid (progT (p.take (k + 1)) = progT (p.take k) ++ headT s1 s2 ++ papsT s3) := by
     show _ = _
     rw [Htk.out, List.append_assoc]; rfl
    have hz1 : s1.size ≤ 10000000 := by have := headT_len s1 s2; omega
    have hz2 : s2.size ≤ 10000000 := by have := headT_len s1 s2; omega
    clear Htk hln hB
    generalize progT (p.take k) = L at *
    go_wp2_with fail
    refine (writeStr_any b b L _ _ hB1 ?h1 ?h2).mono ?_
    case h1 => rw [head_size]; omega
    case h2 => simp; omega
    rintro e w5 ⟨rfl, hB5, hb5, hf5⟩
    rw [head_bytes] at hB5
    have hx2 : w5.cell? ⟨wr.heap.size, 2, none⟩ = some (.slice s4 s3.length s5) := (hX.same (hf5 _ hfr.1 hfr.2.1 hfr.2.2)).cell 2
    have hb6 := Below.join hb1 hb5
    have hs6 : b ≤ w5.heap.size := by have := hb5.size; simp at this; omega
    have hsp := HPS.out _ hb6
    clear hf5 hfr hX hB1 hb1 hb5 hb hs
    generalize wr.heap.size = nb at *
    have hpn : (papsT s3).length ≤ 10000000 := by omega
    have hsn : s3.length ≤ 10000000 := by have := papsT_many s3; omega
    go_wp2_with fail
    clear hx2 c0 c1 c2
    go_loopg [36] s3.length (fun gk jv wr => ∃ j : Nat, jv = .int .i64 j ∧ j ≤ s3.length ∧ Hid (gk = s3.length - j) ∧ Bld b b (L ++ headT s1 s2 ++ papsT (s3.take j)) wr ∧ Below b w2 wr ∧ b ≤ wr.heap.size)
    case atStart => exact ⟨0, rfl, by omega, rfl, by rw [List.take_zero, show papsT [] = [] from rfl, List.append_nil]; exact hB5, hb6, hs6⟩
    case round =>
     clear hB5 hb6 hs6 hsp
     obtain ⟨j, rfl, hj, hgj, hB, hb, hs⟩ := hrel
     by_cases hjl : j < s3.length
     ·
      obtain ⟨qb, qo, hqa, f0⟩ := (HPS.out _ hb).str hjl
      have hpk := papsT_take hjl
      have hpl2 := papsT_le s3 (j + 1)
      rw [hpk, List.length_append] at hpl2
      have Hpk := Lib.hid hpk
      have Hqa := Lib.hid hqa
      rw [hqa]
      clear hpk hqa
      generalize s3[j] = x at *
      have hl4 : (L ++ headT s1 s2 ++ papsT (s3.take j)).length + (papT x).length ≤ 10000000 := by rw [List.length_append, List.length_append]; omega
      have hz3 : x.size ≤ 10000000 := by have := papT_len x; omega
      go_wp2_with fail
      refine (writeStr_any b b _ _ _ hB ?h1 hs).mono ?_
      case h1 => rw [pap_size]; omega
      rintro e w6 ⟨rfl, hB6, hb7, -⟩
      rw [pap_bytes, List.append_assoc, ← Hpk.out] at hB6
      have hb8 := Below.join hb hb7
      have hs8 : b ≤ w6.heap.size := Nat.le_trans hs hb7.size
      clear hb hb7 hB hs f0 hl4 hpl2 Hpk
      go_wp2_with fail
      rw [← Hqa.out]
      go_roundg (s3.length - (j + 1))
      case measure => have := hgj.out; omega
      case rel => exact ⟨j + 1, by go_num, by omega, rfl, hB6, hb8, hs8⟩
     ·
      obtain rfl : j = s3.length := by omega
      rw [List.take_length, ← Htk2.out] at hB
      go_wp2_with fail
      rw [← Ha.out]
      go_roundg (p.length - (k + 1))
      case measure => have := hgk.out; omega
      case rel => exact ⟨k + 1, by go_num, by omega, rfl, hB, hb, hs⟩
   ·
    obtain rfl : k = p.length := by omega
    rw [List.take_length] at hB
    have hd : decide ((200000 : Int) < ((progT p).length : Int)) = false := decide_eq_false (by omega)
    go_wp2_with fail
    refine (bldLen_any b b _ _ hB).mono ?_
    rintro e w4 ⟨rfl, rfl⟩
    go_wp2_with fail
    refine (bldStr_any b b _ _ hB hs).mono ?_
    rintro e w5 ⟨rfl, hb5⟩
    have hb6 := Below.join hb hb5
    rw [Hb.out] at hb6
    have hb7 := below_next hb1 hb6
    go_wp2_with fail
    go_ret2
    exact ⟨rfl, hb7⟩
 ·
  have h1 : (R != 0) = true := by simpa using h0
  have hvs := HV2.out h0
  subst hvs
  clear HN HV1 HV2
  go_wp2_with fail
  go_ret2
  exact ⟨rfl, hb1⟩
end Go.Proofs.YtldgphhiajhfhaaGreatDoor
namespace Go.Proofs.YtldgphhiajhfhaaGreatDoor
open Go.RowKit
set_option linter.unusedVariables false
set_option linter.unusedSimpArgs false
theorem Tryz.infoInt : (Tryz.prog.info? 3).map (fun i => (i.zero, i.size, i.bytes)) = some (some (.int .i64 0), 1, 8) := by kernel_rfl
theorem SA.int {w : World} {a : Option Addr} {l : List Int} (h : SA w a l) {i : Nat} (hi : i < l.length) :
  ∃ b off, a = some ⟨b, off, none⟩ ∧ w.cell? ⟨b, off + i, none⟩ = some (.int .i64 l[i]) := by
 obtain ⟨b, off, ha, hc⟩ := h.at hi
 refine ⟨b, off, ha, ?_⟩
 have := hc 0 (by decide)
 rw [show off + (i * Cel.k Int + 0) = off + i from by show off + (i * 1 + 0) = _; omega] at this
 exact this
def InR (n : Nat) (x : Int) : Prop := 0 ≤ x ∧ x < n
/-- The numbers from 0 to n-1, or others of that range. -/
def SomeOrder (S : Nat) (B : Int) (n : Nat) (w : World) (e : Ending) (w' : World) : Prop :=
 ∃ (v : Value) (l : List Int), e = .returned v ∧ l.length = n ∧ (∀ x ∈ l, InR n x) ∧ Own w.heap.size 3 w' v l ∧ Stp S w w' ∧ Strm S B w'

set_option maxRecDepth 100000 in
set_option maxHeartbeats 8000000 in
theorem order_any (S : Nat) (B : Int) (n : Nat) (w : World) (hs : Strm S B w) (hB : B ≤ 999990000) (hn : n ≤ 1000) :
  Calls Tryz.prog 64 #[.pointer (some ⟨S, 0, none⟩), .int .i64 n] w (SomeOrder S (B + n) n w) := by
 have hS := hs.lt
 go_enter Tryz.func64, Tryz.ntmps64
 go_wp2_with fail
 go_loopg [5, 10] n (fun gk v i wr => ∃ (k : Nat) (acc : List Int), i = .int .i64 k ∧ k ≤ n ∧ Hid (gk = n - k) ∧ Hid (acc.length = k) ∧ Hid (∀ x ∈ acc, InR n x) ∧ Own w.heap.size 3 wr v acc ∧ Stp S w wr ∧ Strm S B wr)
 case atStart => exact ⟨0, [], rfl, by omega, rfl, rfl, by simp [Hid], Own.nil _ _ _, Stp.refl _ _, hs⟩
 case round =>
  clear hs
  obtain ⟨k, acc, rfl, hk, hgk, hal, hsa, hown, hst, hs⟩ := hrel
  have hz := hst.size
  by_cases hlt : k < n
  ·
   go_upto_region 6 with (at_builtin; refine wpList_append_one rfl _ _ 22 rfl w.heap.size 3 8 (.int .i64 0) Tryz.underlying22 Tryz.infoInt rfl _ acc rfl (hown.alloc _) (k : Int) _ rfl (Box.newAt _ _ _ _ ?c0) ?c1 ?c2 ?c3 ?_; rotate_left 4; intro v' w2 hown2 hg2)
   case c0 => rfl
   case c1 => have := hal.out; omega
   case c2 => have := hal.out; omega
   case c3 => simp; omega
   have s2 : Strm S B w2 := (hs.alloc _).grown hg2 (fun k hk => by have := (hown.lt k hk).1; omega)
   have h2 : Stp S w w2 := (hst.alloc _).grown hg2 (fun k hk => .inr (by have := (hown.lt k hk).1; omega))
   go_wp2_with fail
   go_roundg (n - (k + 1))
   case measure => have := hgk.out; omega
   case rel => exact ⟨k + 1, acc ++ [(k : Int)], by go_num, by omega, rfl, by show _ = _; rw [List.length_append, hal.out]; rfl, all_snoc hsa.out ⟨by omega, by omega⟩, hown2, h2, s2⟩
  ·
   obtain rfl : k = n := by omega
   clear hgk hz
   obtain ⟨a, cap, rfl, hsa0, hform, hcap⟩ := hown.form
   rw [hal.out] at hown ⊢
   clear hsa0
   go_wp2_with fail
   go_loopg [7] k (fun gk s7 wr => ∃ (i : Int) (l : List Int), s7 = .int .i64 i ∧ -1 ≤ i ∧ i < k ∧ Hid (gk = (i + 1).toNat) ∧ Hid (l.length = k) ∧ Hid (∀ x ∈ l, InR k x) ∧ Own w.heap.size 3 wr (.slice a k cap) l ∧ Stp S w wr ∧ Strm S (B + (k - 1 - i)) wr)
   case atStart => exact ⟨(k : Int) - 1, acc, rfl, by omega, by omega, by show _ = _; omega, hal, hsa, hown, hst, hs.mono (by omega)⟩
   case round =>
    clear hs hst hown hsa hal
    obtain ⟨i, l, rfl, hi1, hi2, hgk, hal, hsa, hown, hst, hs⟩ := hrel
    have hz := hst.size
    by_cases hi0 : 0 < i
    ·
     obtain ⟨ni, rfl⟩ := Int.eq_ofNat_of_zero_le (by omega : 0 ≤ i)
     go_wp2_with fail
     refine (next_any S (B + (k - 1 - ni)) (ni + 1) _ hs (by omega) (by omega) (by omega)).mono ?_
     rintro e w1 ⟨r, ⟨hr, hr2⟩, rfl, h1, s1⟩
     obtain ⟨nk, rfl⟩ := Int.eq_ofNat_of_zero_le hr
     have hst1 := hst.trans h1
     have hown1 := hown.stp h1 hS
     have hz1 := h1.size
     clear h1 hst hown hs
     have hil : ni < l.length := by rw [hal.out]; omega
     have hkl : nk < l.length := by rw [hal.out]; omega
     obtain ⟨a', cap', he, hsa1, hf1, _⟩ := hown1.form
     simp only [Value.slice.injEq] at he
     obtain ⟨rfl, -, -⟩ := he
     obtain ⟨g, off, ha, ci⟩ := hsa1.int hil
     obtain ⟨g', off', ha', ck⟩ := hsa1.int hkl
     rw [ha] at ha'
     cases ha'
     obtain ⟨g2, hg2, hg3, hg4⟩ : ∃ b, some (⟨g, off, none⟩ : Addr) = some ⟨b, 0, none⟩ ∧ w.heap.size ≤ b ∧ b < w1.heap.size := by
      rw [ha] at hf1
      rcases hf1 with hf1 | hf1
      ·
       cases hf1
      ·
       exact hf1
     cases hg2
     rw [Nat.zero_add] at ci ck
     rw [ha] at hown1 ⊢
     obtain ⟨cur, hbx⟩ := hown1.box
     have fi := hbx.frozen ni
     have fk := hbx.frozen nk
     have hp1 := hown1.put ni 0 l[nk] (.int .i64 l[nk]) hil (by decide) rfl
     have hp2 := hp1.put nk 0 l[ni] (.int .i64 l[ni]) (by simpa using hkl) (by decide) rfl
     have hsa2 : ∀ x ∈ (l.set ni l[nk]).set nk l[ni], InR k x := fun x hx => by
      rcases List.mem_or_eq_of_mem_set hx with hx | rfl
      ·
       rcases List.mem_or_eq_of_mem_set hx with hx | rfl
       ·
        exact hsa.out x hx
       ·
        exact hsa.out _ (List.getElem_mem hkl)
      ·
       exact hsa.out _ (List.getElem_mem hil)
     have Hl2 : Hid (((l.set ni l[nk]).set nk l[ni]).length = k) := by show _ = _; simp [hal.out]
     have Hsa2 := Lib.hid hsa2
     rw [show ni * Cel.k Int + 0 = ni from by show ni * 1 + 0 = ni; omega, show nk * Cel.k Int + 0 = nk from by show nk * 1 + 0 = nk; omega] at hp2
     generalize (l.set ni l[nk]).set nk l[ni] = l2 at *
     generalize l[ni] = xi at *
     generalize l[nk] = xk at *
     clear hsa2 hp1 hsa1 hf1 hbx
     have hni : (ni : Int) < (k : Int) := by omega
     have hnk : (nk : Int) < (k : Int) := by omega
     by_cases hek : ni = nk
     ·
      subst hek
      obtain rfl : xk = xi := by rw [ci] at ck; simpa using ck.symm
      go_wp2_with fail
      go_region
      all_goals
       go_wp2_with fail
       rw [← ha]
       go_roundg ni
       case measure => have := hgk.out; omega
       case rel => exact ⟨(ni : Int) - 1, l2, rfl, by omega, by omega, by show _ = _; omega, Hl2, Hsa2, by rw [ha]; exact hp2.drew, by (repeat' (first | with_reducible assumption | with_reducible exact Stp.refl _ _ | with_reducible refine Stp.setCell ?_ (Or.inr ?_) _ | with_reducible refine Stp.drewN ?_ _ | with_reducible refine Stp.drew ?_ | with_reducible refine Stp.alloc ?_ _ | omega | (simp; done) | (simp; omega))), Strm.mono (B := B + ((k : Int) - 1 - ni) + 1) (by (repeat' (first | with_reducible assumption | with_reducible refine Strm.setOther ?_ ?_ _ | with_reducible refine Strm.drewN ?_ _ | with_reducible refine Strm.drew ?_ | with_reducible refine Strm.alloc ?_ _ | omega | (simp; done) | (simp; omega)))) (by omega)⟩
     ·
      have hek2 : ¬ nk = ni := fun h => hek h.symm
      go_wp2_with fail
      go_region
      all_goals
       go_wp2_with fail
       rw [← ha]
       go_roundg ni
       case measure => have := hgk.out; omega
       case rel => exact ⟨(ni : Int) - 1, l2, rfl, by omega, by omega, by show _ = _; omega, Hl2, Hsa2, by rw [ha]; exact hp2.drew, by (repeat' (first | with_reducible assumption | with_reducible exact Stp.refl _ _ | with_reducible refine Stp.setCell ?_ (Or.inr ?_) _ | with_reducible refine Stp.drewN ?_ _ | with_reducible refine Stp.drew ?_ | with_reducible refine Stp.alloc ?_ _ | omega | (simp; done) | (simp; omega))), Strm.mono (B := B + ((k : Int) - 1 - ni) + 1) (by (repeat' (first | with_reducible assumption | with_reducible refine Strm.setOther ?_ ?_ _ | with_reducible refine Strm.drewN ?_ _ | with_reducible refine Strm.drew ?_ | with_reducible refine Strm.alloc ?_ _ | omega | (simp; done) | (simp; omega)))) (by omega)⟩
    ·
     go_wp2_with fail
     go_ret
     exact ⟨_, l, rfl, hal.out, hsa.out, hown, hst, hs.mono (by omega)⟩
end Go.Proofs.YtldgphhiajhfhaaGreatDoor
namespace Go.Proofs.YtldgphhiajhfhaaGreatDoor
open Go.RowKit
set_option linter.unusedVariables false
set_option linter.unusedSimpArgs false
/-- The programme under way, and what else the loops hold. -/
structure ProgAt (S n0 P : Nat) (g : Grd) (oa : Option Addr) (ol : List Int) (gb : Nat) (w0 : World) (N : Nat) (B : Int) (w : World) : Prop where
 plan : ∃ stV L pa pc p, PlanAt S n0 P g stV L pa pc p w ∧ L.length ≤ N + 1 ∧ p.length ≤ N ∧ (∀ s ∈ p, SesN N s) ∧ (∀ y : Addr, oa = some y → stV.ownBlock ≠ some y.block) ∧ progFault g p = 0
 row : SA w oa ol
 rowAt : ∀ y : Addr, oa = some y → y.block < w.heap.size ∧ y.block ≠ P ∧ y.block ≠ S
 box : Box w gb 32 #[.slice g.ra g.rooms.length g.rc, .slice g.sa g.slots.length g.sc, .slice g.ta g.talks.length g.tc, .slice g.wa g.wishes.length g.wc, .slice g.ba g.bans.length g.bc]
 gbS : gb ≠ S
 gbn : gb < n0
 nw : w0.heap.size ≤ n0
 stp : Stp S w0 w
 strm : Strm S B w
theorem ProgAt.draw {S n0 P : Nat} {g : Grd} {oa : Option Addr} {ol : List Int} {gb : Nat} {w0 : World} {N : Nat} {B B' : Int} {w w' : World} (h : ProgAt S n0 P g oa ol gb w0 N B w) (k : Stp S w w') (hs : Strm S B' w') : ProgAt S n0 P g oa ol gb w0 N B' w' := by
 obtain ⟨⟨stV, L, pa, pc, p, h1, h2, h3, h4, h5⟩, h6, h7, h8, h9, h10, h11, h12, h13⟩ := h
 exact ⟨⟨stV, L, pa, pc, p, h1.stp k, h2, h3, h4, h5⟩, h6.stp k (fun y hy => (h7 y hy).2.2), fun y hy => ⟨Nat.lt_of_lt_of_le (h7 y hy).1 k.size, (h7 y hy).2⟩, h8.stp k h9, h9, h10, h11, h12.trans k, hs⟩
theorem ProgAt.mono {S n0 P : Nat} {g : Grd} {oa : Option Addr} {ol : List Int} {gb : Nat} {w0 : World} {N M : Nat} {B B' : Int} {w : World} (h : ProgAt S n0 P g oa ol gb w0 N B w) (hN : N ≤ M) (hB : B ≤ B') : ProgAt S n0 P g oa ol gb w0 M B' w := by
 obtain ⟨⟨stV, L, pa, pc, p, h1, h2, h3, h4, h5⟩, h6, h7, h8, h9, h10, h11, h12, h13⟩ := h
 exact ⟨⟨stV, L, pa, pc, p, h1, by omega, by omega, fun s hs => (h4 s hs).mono hN, h5⟩, h6, h7, h8, h9, h10, h11, h12, h13.mono hB⟩
theorem ProgAt.placed {S n0 P : Nat} {g : Grd} {oa : Option Addr} {ol : List Int} {gb : Nat} {w0 : World} {N : Nat} {B : Int} {w : World} (h : ProgAt S n0 P g oa ol gb w0 N B w) (hz : GSm g) (hN : N ≤ 900) (paper room slot : ByteArray) (h1 : paper.size ≤ 1000) (h2 : room.size ≤ 1000) (h3 : slot.size ≤ 1000) :
  Calls Tryz.prog 65 #[.pointer (some ⟨P, 0, none⟩), .string paper, .string room, .string slot, .int .i64 0] w (fun e w' => ∃ er : Int, e = .returned (.int .i64 er) ∧ ProgAt S n0 P g oa ol gb w0 (N + 1) B w') := by
 obtain ⟨⟨stV, L, pa, pc, p, q1, q2, q3, q4, q5, q6⟩, h6, h7, h8, h9, h10, h11, h12, h13⟩ := h
 refine (place_any w paper room slot N q1 hz (by omega) hN q3 q4 h1 h2 h3).mono ?_
 rintro e w' ⟨er, stV', L', pa', pc', p', rfl, hA, hQ, hLL, hat, hkp⟩
 have hst := q1.st.lt
 have hP := q1.hP
 have hS := q1.hS
 have hx : ∀ j, (j = P ∨ stV.ownBlock = some j) → n0 ≤ j := fun j hj => by
  rcases hj with rfl | hj
  ·
   exact hP
  ·
   exact (hst j hj).1
 refine ⟨er, rfl, ⟨⟨stV', L', pa', pc', p', hA, by omega, hQ.1, hQ.2.1, fun y hy e => ?_, hQ.2.2.elim (fun e => by rw [e]; exact q6) id⟩, ?_, fun y hy => ?_, ?_, h9, h10, h11, ?_, ?_⟩⟩
 ·
  rcases hat _ e with h | h
  ·
   exact q5 y hy h
  ·
   have := (h7 y hy).1; omega
 ·
  exact h6.kp hkp (fun y hy hl hX => by
   rcases hX with e | e
   ·
    exact (h7 y hy).2.1 e
   ·
    exact q5 y hy e)
 ·
  exact ⟨Nat.lt_of_lt_of_le (h7 y hy).1 hkp.size, (h7 y hy).2⟩
 ·
  exact h8.kp hkp (fun hX => by have := hx _ hX; omega)
 ·
  exact h12.thenKp hkp (fun j hj => .inr (by have := hx j hj; omega))
 ·
  exact h13.kp hkp (fun j hj hX => by have := hx j hX; omega)
set_option maxRecDepth 100000 in
set_option maxHeartbeats 16000000 in
theorem rightProgV_any (S : Nat) (B : Int) (g : Grd) (w : World) (hs : Strm S B w) (hB : B ≤ 999900000) (hg : ∀ W : World, (∀ k, k < w.heap.size → k ≠ S → W.heap[k]? = w.heap[k]?) → GRd W g) (hz : GSm g) (hnt : g.talks.length ≤ 30) :
  Calls Tryz.prog 24 #[.pointer (some ⟨S, 0, none⟩), g.agg] w (fun e w' => ∃ v l, e = .returned v ∧ PW w.heap.size w' v l ∧ l.length ≤ 100 ∧ (∀ s ∈ l, SesN 100 s) ∧ Stp S w w' ∧ Strm S (B + 1000) w' ∧ progFault g l = 0) := by
 have hSl := hs.lt
 have HZM := Lib.hid hz
 have HNP := Lib.hid (newPlan_any S g (w.alloc (.cells #[.slice g.ra g.rooms.length g.rc, .slice g.sa g.slots.length g.sc, .slice g.ta g.talks.length g.tc, .slice g.wa g.wishes.length g.wc, .slice g.ba g.bans.length g.bc] 32)) (fun W hW => hg W (fun k hk hkS => by rw [hW k (by simp; omega) hkS]; exact Below.heap_alloc _ _ _ hk)) (by simp; omega))
 have hX := Box.new w 32 #[.slice g.ra g.rooms.length g.rc, .slice g.sa g.slots.length g.sc, .slice g.ta g.talks.length g.tc, .slice g.wa g.wishes.length g.wc, .slice g.ba g.bans.length g.bc]
 have hst0 := (Stp.refl S w).alloc (.cells #[.slice g.ra g.rooms.length g.rc, .slice g.sa g.slots.length g.sc, .slice g.ta g.talks.length g.tc, .slice g.wa g.wishes.length g.wc, .slice g.ba g.bans.length g.bc] 32)
 have hs0 := hs.alloc (.cells #[.slice g.ra g.rooms.length g.rc, .slice g.sa g.slots.length g.sc, .slice g.ta g.talks.length g.tc, .slice g.wa g.wishes.length g.wc, .slice g.ba g.bans.length g.bc] 32)
 have hw1 : (w.alloc (.cells #[.slice g.ra g.rooms.length g.rc, .slice g.sa g.slots.length g.sc, .slice g.ta g.talks.length g.tc, .slice g.wa g.wishes.length g.wc, .slice g.ba g.bans.length g.bc] 32)).heap.size = w.heap.size + 1 := by simp
 have hn1 := hz.rooms
 have hn2 := hz.slots
 have hgt := fun i (h : i < g.talks.length) => (hz.talk _ (List.getElem_mem h)).1
 have hgr := fun i (h : i < g.rooms.length) => hz.room _ (List.getElem_mem h)
 have hgs := fun i (h : i < g.slots.length) => (hz.slot _ (List.getElem_mem h)).1
 have Hgt := Lib.hid hgt
 have Hgr := Lib.hid hgr
 have Hgs := Lib.hid hgs
 rw [Grd.agg_eq] at HNP ⊢
 clear hz hg hs hgt hgr hgs
 go_enter Tryz.func24, Tryz.ntmps24
 have hX_l := hX.lt; have hX_0 := hX.cell 0; have hX_1 := hX.cell 1; have hX_2 := hX.cell 2; have hX_3 := hX.cell 3; have hX_4 := hX.cell 4; simp at hX_0 hX_1 hX_2 hX_3 hX_4
 go_wp2_with fail
 clear hX_l hX_0 hX_1 hX_2 hX_3 hX_4
 refine HNP.out.mono ?_
 rintro e w2 ⟨P, stV, rfl, hpl, hb2⟩
 rw [hw1] at hpl
 have hX2 := hX.below hb2
 have hst2 := hst0.trans (Stp.of_below hb2)
 have hs2 := hs0.below hb2
 have hz2 := hb2.size
 have hPl := hpl.box.lt
 have hstl := hpl.st.lt
 clear hX hst0 hs0 HNP hb2
 have hX2_l := hX2.lt; have hX2_0 := hX2.cell 0; have hX2_1 := hX2.cell 1; have hX2_2 := hX2.cell 2; have hX2_3 := hX2.cell 3; have hX2_4 := hX2.cell 4; simp at hX2_0 hX2_1 hX2_2 hX2_3 hX2_4
 go_wp2_with fail
 clear hX2_l hX2_0 hX2_1 hX2_2 hX2_3 hX2_4
 refine (order_any S B g.talks.length _ hs2 (by omega) (by omega)).mono ?_
 rintro e w3 ⟨ov, ol, rfl, holen, hin, hown, hst3, hs3⟩
 obtain ⟨oa, oc, rfl, hosa, hofm, -⟩ := hown.form
 have hPA : ProgAt S (w.heap.size + 1) P g oa ol w.heap.size w 0 (B + g.talks.length) w3 := by
  have hoa : ∀ y : Addr, oa = some y → w2.heap.size ≤ y.block ∧ y.block < w3.heap.size := fun y hy => by
   rcases hofm with h1 | ⟨b, h1, h2, h3⟩
   ·
    rw [h1] at hy; cases hy
   ·
    rw [h1] at hy; cases hy; exact ⟨h2, h3⟩
  refine ⟨⟨stV, _, none, 0, [], hpl.stp hst3, by simp, Nat.le_refl _, (fun s hs => by cases hs), fun y hy e => ?_, rfl⟩, hosa, fun y hy => ?_, hX2.stp hst3 (by omega), by omega, by omega, by omega, hst2.trans hst3, hs3⟩
  ·
   have := (hstl _ e).2; have := (hoa y hy).1; omega
  ·
   have := hoa y hy
   exact ⟨this.2, by omega, by omega⟩
 have Hin := Lib.hid hin
 clear hpl hX2 hst2 hs2 hosa hofm hown hst3 hs3 hin hstl
 have hol : ol.length ≤ 30 := by omega
 have Holen := Lib.hid holen
 clear holen
 go_wp2_with fail
 go_loopg [16] ol.length (fun gk iv wr => ∃ i : Nat, iv = .int .i64 i ∧ i ≤ ol.length ∧ Hid (gk = ol.length - i) ∧ ProgAt S (w.heap.size + 1) P g oa ol w.heap.size w (3 * i) (B + g.talks.length + 8 * i) wr)
 case atStart => exact ⟨0, rfl, by omega, rfl, hPA.mono (by omega) (by omega)⟩
 case round =>
  clear hPA
  obtain ⟨k, rfl, hk, hgk, hA⟩ := hrel
  by_cases hlt : k < ol.length
  ·
   obtain ⟨ob, oo, hoa, c0⟩ := hA.row.int hlt
   obtain ⟨hx1, hx2⟩ := Hin.out _ (List.getElem_mem hlt)
   obtain ⟨x, hx⟩ := Int.eq_ofNat_of_zero_le hx1
   rw [hx] at c0 hx2
   have hxt : x < g.talks.length := by omega
   have Hoa := Lib.hid hoa
   rw [hoa]
   clear hoa hx1 hx2
   have hbx := hA.box
   have hbx_l := hbx.lt; have hbx_0 := hbx.cell 0; have hbx_1 := hbx.cell 1; have hbx_2 := hbx.cell 2; have hbx_3 := hbx.cell 3; have hbx_4 := hbx.cell 4; simp at hbx_0 hbx_1 hbx_2 hbx_3 hbx_4
   by_cases q1 : g.rooms.length = 0
   ·
    have hd1 : ((g.rooms.length : Int) == 0) = true := by rw [beq_iff_eq]; omega
    clear q1
    go_wp2_with fail
    rw [← Hoa.out]
    go_roundg (ol.length - (k + 1))
    case measure => have := hgk.out; omega
    case rel => exact ⟨k + 1, by go_num, by omega, rfl, hA.mono (by omega) (by omega)⟩
   ·
    have hd1 : ((g.rooms.length : Int) == 0) = false := by rw [beq_eq_false_iff_ne]; omega
    by_cases q2 : g.slots.length = 0
    ·
     have hd2 : ((g.slots.length : Int) == 0) = true := by rw [beq_iff_eq]; omega
     clear q2
     go_wp2_with fail
     rw [← Hoa.out]
     go_roundg (ol.length - (k + 1))
     case measure => have := hgk.out; omega
     case rel => exact ⟨k + 1, by go_num, by omega, rfl, hA.mono (by omega) (by omega)⟩
    ·
     have hd2 : ((g.slots.length : Int) == 0) = false := by rw [beq_eq_false_iff_ne]; omega
     go_wp2_with fail
     refine (flip_any S _ 5 _ hA.strm (by omega) (by omega) (by omega)).mono ?_
     rintro e w5 ⟨fl, rfl, h5, s5⟩
     have hA5 := hA.draw h5 s5
     clear hbx_l hbx_0 hbx_1 hbx_2 hbx_3 hbx_4
     clear hA hbx c0 h5 s5 hd1 hd2
     cases fl
     ·
      go_wp2_with fail
      go_loopg [34] 3 (fun gj jv wq => ∃ j : Nat, jv = .int .i64 j ∧ j ≤ 3 ∧ Hid (gj = 3 - j) ∧ ProgAt S (w.heap.size + 1) P g oa ol w.heap.size w (3 * k + j) (B + g.talks.length + 8 * k + 1 + 2 * j) wq)
      case atStart => exact ⟨0, rfl, by omega, rfl, hA5.mono (by omega) (by omega)⟩
      case round =>
       clear hA5
       obtain ⟨j, rfl, hj, hgj, hA⟩ := hrel
       by_cases hjl : j < 3
       ·
        have hG : GRd wr g := by obtain ⟨stV', L', pa', pc', p', q1, -⟩ := hA.plan; exact q1.grid
        obtain ⟨tb, tof, hta, t0, -, -, -⟩ := hG.talks.tlkC hxt
        obtain ⟨rb, rof, hra, -, -⟩ := hG.rooms.romC (i := 0) (by omega)
        obtain ⟨sb, sof, hsa, -, -, -⟩ := hG.slots.sltC (i := 0) (by omega)
        have Hpt := Lib.hid (Hgt.out x hxt)
        have HK : Hid (∀ (N : Nat) (B' : Int) (W : World), ProgAt S (w.heap.size + 1) P g oa ol w.heap.size w N B' W → (W.cell? ⟨w.heap.size, 0, none⟩ = some (.slice (some ⟨rb, rof, none⟩) g.rooms.length g.rc) ∧ W.cell? ⟨w.heap.size, 1, none⟩ = some (.slice (some ⟨sb, sof, none⟩) g.slots.length g.sc) ∧ W.cell? ⟨w.heap.size, 2, none⟩ = some (.slice (some ⟨tb, tof, none⟩) g.talks.length g.tc) ∧ W.cell? ⟨tb, tof + x * 4, none⟩ = some (.string g.talks[x].paper) ∧ GRd W g)) := fun N B' W h => by
         have hGW : GRd W g := by obtain ⟨stV', L', pa', pc', p', q1, -⟩ := h.plan; exact q1.grid
         obtain ⟨tb', tof', hta', t0', -, -, -⟩ := hGW.talks.tlkC hxt
         rw [hta] at hta'
         cases hta'
         have c0 := h.box.cell 0
         have c1 := h.box.cell 1
         have c2 := h.box.cell 2
         rw [hra] at c0
         rw [hsa] at c1
         rw [hta] at c2
         exact ⟨c0, c1, c2, t0', hGW⟩
        have Hra := Lib.hid hra
        have Hsa := Lib.hid hsa
        have hx1 : (0 : Int) ≤ (x : Int) := by omega
        have hx2' : (x : Int) < (g.talks.length : Int) := by omega
        have hAd := hA.draw ((Stp.refl S wr).drew) (hA.strm.drew)
        clear hG hta hra hsa t0
        generalize g.talks[x].paper = pk at *
        go_upto_region 8 with (fail)
        have hjd : decide ((j : Int) < 3) = true := decide_eq_true (by omega)
        (try rw [hjd])
        clear hjd
        refine wp_region_held_drew (S := (fun wx => wx.cell? ⟨w.heap.size, 0, none⟩ = some (.slice (some ⟨rb, rof, none⟩) g.rooms.length g.rc) ∧ wx.cell? ⟨w.heap.size, 1, none⟩ = some (.slice (some ⟨sb, sof, none⟩) g.slots.length g.sc) ∧ wx.cell? ⟨w.heap.size, 2, none⟩ = some (.slice (some ⟨tb, tof, none⟩) g.talks.length g.tc) ∧ wx.cell? ⟨tb, tof + x * 4, none⟩ = some (.string pk) ∧ GRd wx g)) (by kernel_rfl) ?hS (fun hHeld => ?_)
        case hS => exact HK.out _ _ _ hAd
        refine rt 0 (some 36) ?_
        refine rt 1 (some 37) ?_
        refine rt 2 (some 38) ?_
        refine rt 3 (some 39) ?_
        refine rt 4 (some 40) ?_
        refine rt 5 (some 41) ?_
        refine rt 6 (some 42) ?_
        refine rt 7 (some 43) ?_
        refine rt 8 (some 44) ?_
        refine rt 9 (some 45) ?_
        refine rt 10 (some 46) ?_
        refine rt 11 (some 47) ?_
        refine rt 12 (some 48) ?_
        refine rt 17 (some 53) ?_
        refine rt 18 (some 54) ?_
        refine rt 19 (some 55) ?_
        refine rt 20 (some 56) ?_
        refine rt 21 (some 57) ?_
        refine rt 22 (some 58) ?_
        refine rcall (i := 13) (d := (some 49)) (by kernel_rfl) rfl (by kernel_rfl) (fun K hK => ?_)
        go_simp
        go_at_call 20; refine (next_any S _ g.rooms.length _ hAd.strm (by omega) (by omega) (by omega)).mono ?_; rintro e w6 ⟨r, ⟨hr1, hr2⟩, rfl, h6, s6⟩; have hA6 := hAd.draw h6 s6
        refine hK.out _ _ ?hS (fun hHeld => ?_)
        case hS => exact HK.out _ _ _ hA6
        clear hK K
        simp only [Act.put, lsetA, lsetZ, lsetS]
        obtain ⟨ri, rfl⟩ := Int.eq_ofNat_of_zero_le hr1
        have hri : ri < g.rooms.length := by omega
        refine rt 14 (some 50) ?_
        refine rt 15 (some 51) ?_
        refine rtake (i := 16) (d := (some 52)) (v := ?_) rfl (by kernel_rfl) (by kernel_rfl) (by kernel_rfl) (by kernel_rfl) (fun _ _ _ h => h) (by kernel_rfl) (by assumption) ?_ ?_
        rotate_left 1
        ·
         (intro wI hSI; obtain ⟨b', o', e', cR, -⟩ := hSI.2.2.2.2.rooms.romC hri; rw [Hra.out] at e'; cases e'; go_simp; (try with_reducible rfl))
        simp only [Act.put, lsetA, lsetZ, lsetS]
        refine rcall (i := 23) (d := (some 59)) (by kernel_rfl) rfl (by kernel_rfl) (fun K hK => ?_)
        go_simp
        go_at_call 20; refine (next_any S _ g.slots.length _ hA6.strm (by omega) (by omega) (by omega)).mono ?_; rintro e w7 ⟨r2, ⟨hr3, hr4⟩, rfl, h7, s7⟩; have hA7 := hA6.draw h7 s7
        refine hK.out _ _ ?hS (fun hHeld => ?_)
        case hS => exact HK.out _ _ _ hA7
        clear hK K
        simp only [Act.put, lsetA, lsetZ, lsetS]
        obtain ⟨si, rfl⟩ := Int.eq_ofNat_of_zero_le hr3
        have hsi : si < g.slots.length := by omega
        refine rt 24 (some 60) ?_
        refine rt 25 (some 61) ?_
        refine rtake (i := 26) (d := (some 62)) (v := ?_) rfl (by kernel_rfl) (by kernel_rfl) (by kernel_rfl) (by kernel_rfl) (fun _ _ _ h => h) (by kernel_rfl) (by assumption) ?_ ?_
        rotate_left 1
        ·
         (intro wI hSI; obtain ⟨b', o', e', cR, -, -⟩ := hSI.2.2.2.2.slots.sltC hsi; rw [Hsa.out] at e'; cases e'; go_simp; (try with_reducible rfl))
        simp only [Act.put, lsetA, lsetZ, lsetS]
        refine rcall (i := 27) (d := (some 63)) (by kernel_rfl) rfl (by kernel_rfl) (fun K hK => ?_)
        go_simp
        go_at_call 65; refine (hA7.placed HZM.out (by omega) pk g.rooms[ri].1 g.slots[si].1 Hpt.out (Hgr.out ri hri) (Hgs.out si hsi)).mono ?_; rintro e w8 ⟨er, rfl, hA8⟩
        refine hK.out _ _ ?hS (fun hHeld => ?_)
        case hS => exact HK.out _ _ _ hA8
        clear hK K
        simp only [Act.put, lsetA, lsetZ, lsetS]
        refine rt 28 (some 64) ?_
        refine wpAnyH_done (by kernel_rfl) ?_ _
        clear hHeld HK hAd hA6 hA7 hA h6 s6 h7 s7
        by_cases her : er = 0
        ·
         subst her
         go_wp2_with fail
         rw [← Hoa.out]
         go_roundg (ol.length - (k + 1))
         case measure => have := hgk.out; omega
         case rel => exact ⟨k + 1, by go_num, by omega, rfl, hA8.mono (by omega) (by omega)⟩
        ·
         have hd : (er == 0) = false := by rw [beq_eq_false_iff_ne]; exact her
         clear her
         go_wp2_with fail
         go_roundg (3 - (j + 1))
         case measure => have := hgj.out; omega
         case rel => exact ⟨j + 1, by go_num, by omega, rfl, hA8.mono (by omega) (by omega)⟩
       ·
        obtain rfl : j = 3 := by omega
        go_wp2_with fail
        rw [← Hoa.out]
        go_roundg (ol.length - (k + 1))
        case measure => have := hgk.out; omega
        case rel => exact ⟨k + 1, by go_num, by omega, rfl, hA.mono (by omega) (by omega)⟩
     ·
      go_wp2_with fail
      rw [← Hoa.out]
      go_roundg (ol.length - (k + 1))
      case measure => have := hgk.out; omega
      case rel => exact ⟨k + 1, by go_num, by omega, rfl, hA5.mono (by omega) (by omega)⟩
  ·
   obtain rfl : k = ol.length := by omega
   obtain ⟨⟨stV', L', pa', pc', p', q1, q2, q3, q4, q5, q6⟩, h6, h7, h8, h9, h10, h11, h12, h13⟩ := hA
   have Q6 := Lib.hid q6
   clear q6
   have HSS := Lib.hid (sessions_any _ q1 (by omega) (by omega) (fun s hs => (q4 s hs).mono (by omega)))
   go_wp2_with fail
   refine HSS.out.mono ?_
   rintro e w9 ⟨v, l, rfl, hpw, hcl, hb9⟩
   go_wp2_with fail
   go_ret
   have hll : l.length = p'.length := by have := congrArg List.length hcl; simpa using this
   refine ⟨v, l, rfl, hpw.mono h12.size, by omega, fun s hs => (SesN.cnt hcl q4 s hs).mono (by omega), h12.trans (Stp.of_below hb9), (h13.below hb9).mono (by omega), by rw [fault_cnt g hcl]; exact Q6.out⟩
theorem rightProg_any (S : Nat) (B : Int) (g : Grd) (w : World) (hs : Strm S B w) (hB : B ≤ 999900000) (hg : ∀ W : World, (∀ k, k < w.heap.size → k ≠ S → W.heap[k]? = w.heap[k]?) → GRd W g) (hz : GSm g) (hnt : g.talks.length ≤ 30) :
  Calls Tryz.prog 24 #[.pointer (some ⟨S, 0, none⟩), g.agg] w (fun e w' => ∃ v l, e = .returned v ∧ PW w.heap.size w' v l ∧ l.length ≤ 100 ∧ (∀ s ∈ l, SesN 100 s) ∧ Stp S w w' ∧ Strm S (B + 1000) w') :=
 (rightProgV_any S B g w hs hB hg hz hnt).mono fun e w' ⟨v, l, h1, h2, h3, h4, h5, h6, _⟩ => ⟨v, l, h1, h2, h3, h4, h5, h6⟩
end Go.Proofs.YtldgphhiajhfhaaGreatDoor

/-! The maker Programme. Written by gen/src/mkprog2.py. -/
namespace Go.Proofs.YtldgphhiajhfhaaGreatDoor
open Go.RowKit
set_option linter.unusedVariables false
set_option linter.unusedSimpArgs false

theorem PW.fin {S n0 : Nat} {w : World} {v : Value} {l : List Ses} (h : PW n0 w v l) (hS : S < n0) : ∃ a cap, v = .slice a l.length cap ∧ (∀ W, Stp S w W → PRg W a l) ∧ l.length ≤ cap := by
 obtain ⟨a, cap, rfl, -, -, hc⟩ := h.prg
 refine ⟨a, cap, rfl, fun W hW => ?_, hc⟩
 obtain ⟨a', c', he, hp, -, -⟩ := (h.stp hW hS).prg
 simp only [Value.slice.injEq] at he
 rw [he.1]; exact hp
/-- A list laid whole, of one or two strings. -/
theorem Own.lit {w : World} {q base : Nat} {vs : Array Value} (hb : Box w q 9 vs) (l : List ByteArray) (n : Nat) (hv : vs = (l.map Value.string).toArray) (hn : l.length = n) (hq : base ≤ q) (hl : l.length ≤ 10) : Own base 9 w (.slice (some ⟨q, 0, none⟩) n n) l := by
 subst hn
 refine Own.laid hb hq (by rw [hv]; show _ = l.length * 1; simp) (by unfold maxLen; omega) (Nat.le_refl _) ?_
 have h := Box.arr hb l (by rw [hv]; exact map_flat l)
 exact h
/-- What the maker leaves. -/
def ProgRes (S : Nat) (B : Int) (w : World) (e : Ending) (w' : World) : Prop := ∃ a cap l, e = .returned (.slice a (List.length l) cap) ∧ (∀ W, Stp S w' W → PRg W a l) ∧ l.length ≤ cap ∧ l.length ≤ 200 ∧ (∀ s ∈ l, SesN 200 s ∧ s.papers.length ≤ s.c1) ∧ Stp S w w' ∧ Strm S B w'
theorem ProgRes.of {S n0 : Nat} {B B' : Int} {w w' : World} {v : Value} {l : List Ses} (h : PW n0 w' v l) (hS : S < n0) (hl : l.length ≤ 200) (hn : ∀ s ∈ l, SesN 200 s) (hst : Stp S w w') (hs : Strm S B' w') (hB : B' ≤ B) : ProgRes S B w (.returned v) w' := by
 obtain ⟨a, cap, rfl, h1, h2⟩ := h.fin hS
 refine ⟨a, cap, l, rfl, h1, h2, hl, fun s hsl => ⟨hn s hsl, ?_⟩, hst, hs.mono hB⟩
 obtain ⟨a', c', he, -, -, hc⟩ := (h.inn s hsl).form
 unfold Ses.pv at he
 simp only [Value.slice.injEq] at he
 rw [he.2.2]; exact hc
set_option maxRecDepth 100000 in
set_option maxHeartbeats 16000000 in
theorem programme_any (S : Nat) (B : Int) (g : Grd) (w : World) (hs : Strm S B w) (hB : B ≤ 999900000) (hg : ∀ W : World, (∀ k, k < w.heap.size → k ≠ S → W.heap[k]? = w.heap[k]?) → GRd W g) (hz : GSm g) (hnt : g.talks.length ≤ 30) :
  Calls Tryz.prog 6 #[.pointer (some ⟨S, 0, none⟩), g.agg] w (ProgRes S (B + 1010) w) := by
 have hSl := hs.lt
 have HGF := Lib.hid (fun W (h : GRd W g) => gridFaultR_any g W h hz)
 have HG := Lib.hid hg
 have hX := Box.new w 32 #[.slice g.ra g.rooms.length g.rc, .slice g.sa g.slots.length g.sc, .slice g.ta g.talks.length g.tc, .slice g.wa g.wishes.length g.wc, .slice g.ba g.bans.length g.bc]
 have hst0 := (Stp.refl S w).alloc (.cells #[.slice g.ra g.rooms.length g.rc, .slice g.sa g.slots.length g.sc, .slice g.ta g.talks.length g.tc, .slice g.wa g.wishes.length g.wc, .slice g.ba g.bans.length g.bc] 32)
 have hs0 := hs.alloc (.cells #[.slice g.ra g.rooms.length g.rc, .slice g.sa g.slots.length g.sc, .slice g.ta g.talks.length g.tc, .slice g.wa g.wishes.length g.wc, .slice g.ba g.bans.length g.bc] 32)
 have hz0 : (w.alloc (.cells #[.slice g.ra g.rooms.length g.rc, .slice g.sa g.slots.length g.sc, .slice g.ta g.talks.length g.tc, .slice g.wa g.wishes.length g.wc, .slice g.ba g.bans.length g.bc] 32)).heap.size = w.heap.size + 1 := by simp
 have HRP := Lib.hid (fun W (hst : Stp S w W) (hs : Strm S B W) => rightProg_any S B g W hs hB (fun W' hW' => HG.out W' (fun k hk hkS => by rw [hW' k (by have := hst.size; omega) hkS]; exact hst.block k hk hkS)) hz hnt)
 have HGR := Lib.hid (fun W (hst : Stp S w W) => HG.out W (fun k hk hkS => hst.block k hk hkS))
 rw [Grd.agg_eq] at HGF HRP ⊢
 clear hg hs HG
 go_enter Tryz.func6, Tryz.ntmps6
 have hX_l := hX.lt; have hX_0 := hX.cell 0; have hX_1 := hX.cell 1; have hX_2 := hX.cell 2; have hX_3 := hX.cell 3; have hX_4 := hX.cell 4; simp at hX_0 hX_1 hX_2 hX_3 hX_4
 go_wp2_with fail
 clear hX_l hX_0 hX_1 hX_2 hX_3 hX_4
 refine (HGF.out _ (HGR.out _ hst0)).mono ?_
 rintro e w1 ⟨rfl, hb1⟩
 have hX1 := hX.below hb1
 have hst1 := hst0.trans (Stp.of_below hb1)
 have hs1 := hs0.below hb1
 clear hX hst0 hs0 hb1
 generalize gridFault g = gf at *
 go_upto_if 9 with (fail)
 go_cut [5] (fun v5 wx => ∃ l, PW (w.heap.size + 1) wx v5 l ∧ l.length ≤ 100 ∧ (∀ s ∈ l, SesN 100 s) ∧ w.heap.size + 1 ≤ wx.heap.size ∧ Stp S w wx ∧ Strm S (B + 1000) wx)
 case first =>
  by_cases hf : gf = 0
  ·
   subst hf
   have hX1_l := hX1.lt; have hX1_0 := hX1.cell 0; have hX1_1 := hX1.cell 1; have hX1_2 := hX1.cell 2; have hX1_3 := hX1.cell 3; have hX1_4 := hX1.cell 4; simp at hX1_0 hX1_1 hX1_2 hX1_3 hX1_4
   go_wp2_with fail
   refine (HRP.out _ hst1 hs1).mono ?_
   rintro e w2 ⟨v, l, rfl, hpw, hl, hn, hst, hs⟩
   have hsz := hst1.size
   have hz1 := hX1.lt
   go_wp2_with fail
   go_meet
   exact ⟨l, hpw.mono (by omega), hl, hn, by have := hst.size; omega, hst1.trans hst, hs⟩
  ·
   have hd : (gf == 0) = false := by rw [beq_eq_false_iff_ne]; exact hf
   clear hf
   go_wp2_with fail
   go_meet
   exact ⟨[], PW.nil _ _, by simp, (fun s hs => by cases hs), hX1.lt, hst1, hs1.mono (by omega)⟩
 case rest =>
  obtain ⟨l, hpw, hl, hn, hzc, hst, hs⟩ := hcut
  clear hX1 hst1 hs1
  obtain ⟨v, hv⟩ : ∃ v, v = u5 := ⟨_, rfl⟩
  rw [← hv] at hpw ⊢
  clear hv
  go_wp2_with fail
  refine (flip_any S _ 6 _ hs (by omega) (by omega) (by omega)).mono ?_
  rintro e w3 ⟨fl, rfl, h3, s3⟩
  have hpw3 := hpw.stp h3 (by omega)
  have hst3 := hst.trans h3
  have hz3 := h3.size
  have Hn := Lib.hid hn
  clear hpw hst hs h3 hn
  cases fl
  ·
   go_wp2_with fail
   go_ret
   exact ProgRes.of hpw3 (by omega) (by omega) (fun s hs => (Hn.out s hs).mono (by omega)) hst3 s3 (by omega)
  ·
   go_wp2_with fail
   refine (next_any S _ 4 _ s3 (by omega) (by omega) (by omega)).mono ?_
   rintro e w4 ⟨z, ⟨hz1, hz2⟩, rfl, h4, s4⟩
   have hpw4 := hpw3.stp h4 (by omega)
   have hst4 := hst3.trans h4
   have hz4 := h4.size
   clear hpw3 hst3 h4 s3
   obtain rfl | rfl | rfl | rfl : z = 0 ∨ z = 1 ∨ z = 2 ∨ z = 3 := by omega
   ·
    have hS4 := s4.lt
    have sq5 := s4.alloc (.cells #[.string ⟨#[115, 97]⟩, .string ⟨#[115, 98]⟩, .string ⟨#[110, 111]⟩] 9)
    have hpq5 := hpw4.alloc (.cells #[.string ⟨#[115, 97]⟩, .string ⟨#[115, 98]⟩, .string ⟨#[110, 111]⟩] 9)
    have hsq5 := hst4.alloc (.cells #[.string ⟨#[115, 97]⟩, .string ⟨#[115, 98]⟩, .string ⟨#[110, 111]⟩] 9)
    clear hpw4 hst4 s4
    go_wp2_with fail
    refine (one_any S _ w4.heap.size 3 3 9 _ _ sq5 (by omega) (Box.new w4 _ _) (by omega) rfl (by omega) (by omega) (by simp; decide)).mono ?_
    rintro e w5 ⟨x1, hx1, rfl, h5, s5⟩
    have hS5 := s5.lt
    have hz5 := h5.size
    simp at hz5
    have sq6 := s5.alloc (.cells #[.string ⟨#[114, 97]⟩, .string ⟨#[114, 98]⟩, .string ⟨#[110, 111]⟩] 9)
    have hpq6 := (hpq5.stp h5 (by omega)).alloc (.cells #[.string ⟨#[114, 97]⟩, .string ⟨#[114, 98]⟩, .string ⟨#[110, 111]⟩] 9)
    have hsq6 := (hsq5.trans h5).alloc (.cells #[.string ⟨#[114, 97]⟩, .string ⟨#[114, 98]⟩, .string ⟨#[110, 111]⟩] 9)
    clear hpq5 hsq5 sq5 h5 s5
    go_wp2_with fail
    refine (one_any S _ w5.heap.size 3 3 9 _ _ sq6 (by omega) (Box.new w5 _ _) (by omega) rfl (by omega) (by omega) (by simp; decide)).mono ?_
    rintro e w6 ⟨x2, hx2, rfl, h6, s6⟩
    have hz6a := h6.size
    simp at hz6a
    have hpq7 := hpq6.stp h6 (by omega)
    have hsq7 := hsq6.trans h6
    clear hpq6 hsq6 sq6 h6
    go_wp2_with fail
    have hol := hpq7.own.lt
    have hoi := fun y (hy : y ∈ l) => (hpq7.inn y hy).lt
    have hz6 := hsq7.size
    have hB1 := (((Box.new w6 9 #[.string ⟨#[112, 97]⟩]).alloc (.cells #[.string ⟨#[112, 98]⟩, .string ⟨#[112, 99]⟩] 9)).alloc (.cells #[.string ⟨#[110, 111]⟩] 9)).alloc (.cells #[.slice none 0 0, .slice (some ⟨w6.heap.size, 0, none⟩) 1 1, .slice (some ⟨w6.heap.size + 1, 0, none⟩) 2 2, .slice (some ⟨w6.heap.size + 1 + 1, 0, none⟩) 1 1] 57)
    have hB2 := ((Box.newAt (w6.alloc (.cells #[.string ⟨#[112, 97]⟩] 9)) (w6.heap.size + 1) 9 #[.string ⟨#[112, 98]⟩, .string ⟨#[112, 99]⟩] (by simp)).alloc (.cells #[.string ⟨#[110, 111]⟩] 9)).alloc (.cells #[.slice none 0 0, .slice (some ⟨w6.heap.size, 0, none⟩) 1 1, .slice (some ⟨w6.heap.size + 1, 0, none⟩) 2 2, .slice (some ⟨w6.heap.size + 1 + 1, 0, none⟩) 1 1] 57)
    have hB3 := (Box.newAt ((w6.alloc (.cells #[.string ⟨#[112, 97]⟩] 9)).alloc (.cells #[.string ⟨#[112, 98]⟩, .string ⟨#[112, 99]⟩] 9)) (w6.heap.size + 1 + 1) 9 #[.string ⟨#[110, 111]⟩] (by simp)).alloc (.cells #[.slice none 0 0, .slice (some ⟨w6.heap.size, 0, none⟩) 1 1, .slice (some ⟨w6.heap.size + 1, 0, none⟩) 2 2, .slice (some ⟨w6.heap.size + 1 + 1, 0, none⟩) 1 1] 57)
    have hBN := Box.newAt (((w6.alloc (.cells #[.string ⟨#[112, 97]⟩] 9)).alloc (.cells #[.string ⟨#[112, 98]⟩, .string ⟨#[112, 99]⟩] 9)).alloc (.cells #[.string ⟨#[110, 111]⟩] 9)) (w6.heap.size + 1 + 1 + 1) 57 #[.slice none 0 0, .slice (some ⟨w6.heap.size, 0, none⟩) 1 1, .slice (some ⟨w6.heap.size + 1, 0, none⟩) 2 2, .slice (some ⟨w6.heap.size + 1 + 1, 0, none⟩) 1 1] (by simp)
    have hpq8 := (((hpq7.alloc (.cells #[.string ⟨#[112, 97]⟩] 9)).alloc (.cells #[.string ⟨#[112, 98]⟩, .string ⟨#[112, 99]⟩] 9)).alloc (.cells #[.string ⟨#[110, 111]⟩] 9)).alloc (.cells #[.slice none 0 0, .slice (some ⟨w6.heap.size, 0, none⟩) 1 1, .slice (some ⟨w6.heap.size + 1, 0, none⟩) 2 2, .slice (some ⟨w6.heap.size + 1 + 1, 0, none⟩) 1 1] 57)
    have hsq8 := (((hsq7.alloc (.cells #[.string ⟨#[112, 97]⟩] 9)).alloc (.cells #[.string ⟨#[112, 98]⟩, .string ⟨#[112, 99]⟩] 9)).alloc (.cells #[.string ⟨#[110, 111]⟩] 9)).alloc (.cells #[.slice none 0 0, .slice (some ⟨w6.heap.size, 0, none⟩) 1 1, .slice (some ⟨w6.heap.size + 1, 0, none⟩) 2 2, .slice (some ⟨w6.heap.size + 1 + 1, 0, none⟩) 1 1] 57)
    have sq8 := (((s6.alloc (.cells #[.string ⟨#[112, 97]⟩] 9)).alloc (.cells #[.string ⟨#[112, 98]⟩, .string ⟨#[112, 99]⟩] 9)).alloc (.cells #[.string ⟨#[110, 111]⟩] 9)).alloc (.cells #[.slice none 0 0, .slice (some ⟨w6.heap.size, 0, none⟩) 1 1, .slice (some ⟨w6.heap.size + 1, 0, none⟩) 2 2, .slice (some ⟨w6.heap.size + 1 + 1, 0, none⟩) 1 1] 57)
    have hS6 := s6.lt
    clear hpq7 hsq7 s6
    generalize (((w6.alloc (.cells #[.string ⟨#[112, 97]⟩] 9)).alloc (.cells #[.string ⟨#[112, 98]⟩, .string ⟨#[112, 99]⟩] 9)).alloc (.cells #[.string ⟨#[110, 111]⟩] 9)).alloc (.cells #[.slice none 0 0, .slice (some ⟨w6.heap.size, 0, none⟩) 1 1, .slice (some ⟨w6.heap.size + 1, 0, none⟩) 2 2, .slice (some ⟨w6.heap.size + 1 + 1, 0, none⟩) 1 1] 57) = w7 at *
    refine (next_any S _ 4 _ sq8 (by omega) (by omega) (by omega)).mono ?_
    rintro e w8 ⟨r, ⟨hr1, hr2⟩, rfl, h8, s8⟩
    obtain ⟨k, rfl⟩ := Int.eq_ofNat_of_zero_le hr1
    have hk4 : k < 4 := by omega
    have hpq9 := hpq8.stp h8 (by omega)
    have hsq9 := hsq8.trans h8
    have b1 := hB1.stp h8 (by omega)
    have b2 := hB2.stp h8 (by omega)
    have b3 := hB3.stp h8 (by omega)
    have bN := hBN.stp h8 (by omega)
    clear hpq8 hsq8 sq8 hB1 hB2 hB3 hBN h8
    obtain ⟨ps, pa, pc, hcell, hpo, hps, hpsz, hpb⟩ : ∃ (ps : List ByteArray) (pa : Option Addr) (pc : Nat), w8.cell? ⟨w6.heap.size + 1 + 1 + 1, k, none⟩ = some (.slice pa ps.length pc) ∧ Own (w.heap.size + 1) 9 w8 (.slice pa ps.length pc) ps ∧ ps.length ≤ 2 ∧ (∀ x ∈ ps, x.size ≤ 1000) ∧ ∀ j, (Value.slice pa ps.length pc).ownBlock = some j → w6.heap.size ≤ j := by
     obtain rfl | rfl | rfl | rfl : k = 0 ∨ k = 1 ∨ k = 2 ∨ k = 3 := by omega
     ·
      exact ⟨[], none, 0, bN.cell 0, Own.nil _ _ _, by decide, (fun x hx => by cases hx), fun j hj => by cases hj⟩
     ·
      exact ⟨([⟨#[112, 97]⟩] : List ByteArray), _, _, bN.cell 1, Own.lit b1 _ 1 rfl rfl (by omega) (by decide), by decide, by decide, fun j hj => by have h5 : w6.heap.size = j := Option.some.inj hj; omega⟩
     ·
      exact ⟨([⟨#[112, 98]⟩, ⟨#[112, 99]⟩] : List ByteArray), _, _, bN.cell 2, Own.lit b2 _ 2 rfl rfl (by omega) (by decide), by decide, by decide, fun j hj => by have h5 : w6.heap.size + 1 = j := Option.some.inj hj; omega⟩
     ·
      exact ⟨([⟨#[110, 111]⟩] : List ByteArray), _, _, bN.cell 3, Own.lit b3 _ 1 rfl rfl (by omega) (by decide), by decide, by decide, fun j hj => by have h5 : w6.heap.size + 1 + 1 = j := Option.some.inj hj; omega⟩
    have hz9 := hsq9.size
    have hownA := hpq9.own.alloc (.cells #[.string x1, .string x2, .slice pa ps.length pc] 67)
    have hpwA := hpq9.alloc (.cells #[.string x1, .string x2, .slice pa ps.length pc] 67)
    have hpoA := hpo.alloc (.cells #[.string x1, .string x2, .slice pa ps.length pc] 67)
    have hstA := hsq9.alloc (.cells #[.string x1, .string x2, .slice pa ps.length pc] 67)
    have sA := s8.alloc (.cells #[.string x1, .string x2, .slice pa ps.length pc] 67)
    have hbo := Box.new w8 67 #[.string x1, .string x2, .slice pa ps.length pc]
    have hr3 : (0 : Int) ≤ (k : Int) := by omega
    have hr4 : (k : Int) < 4 := by omega
    have Hn3 : Hid (∀ s ∈ l ++ [(⟨x1, x2, ps, pa, pc⟩ : Ses)], SesN 200 s) := fun s hs => by
     rcases List.mem_append.1 hs with h | h
     ·
      exact (Hn.out s h).mono (by omega)
     ·
      rw [List.mem_singleton] at h; subst h; exact ⟨hx1, hx2, by show ps.length ≤ _; omega, hpsz⟩
    have hoA := hownA.lt
    clear hpq9 hsq9 b1 b2 b3 bN hpo
    go_wp2_with (at_builtin; refine wpList_append_lie (α := Ses) rfl _ _ 34 rfl 67 56 (.agg #[.string ⟨#[]⟩, .string ⟨#[]⟩, .slice none 0 0]) Tryz.underlying34 cloneSesInfo rfl _ l rfl hownA (⟨x1, x2, ps, pa, pc⟩ : Ses) _ rfl hbo (by omega) (by omega) (by simp; omega) ?_; intro g9 cap9 w9 hown9 hg9 hat9)
    have hpwF := hpwA.snoc (x := (⟨x1, x2, ps, pa, pc⟩ : Ses)) hpoA (fun j hj e => by have h1 := hol j hj; have h2 := hpb j e; omega) (fun y hy j hj e => by have h1 := hoi y hy j hj; have h2 := hpb j e; omega) hg9 hown9 (fun j hj => by
     obtain rfl : g9 = j := Option.some.inj hj
     exact hat9.imp id (fun e => Nat.le_of_eq e.symm))
    have hstF := hstA.grown hg9 (fun b hb => .inr (by have := (hoA b hb).1; omega))
    have sF := sA.grown hg9 (fun b hb => by have := (hoA b hb).1; omega)
    have hll : (l ++ [(⟨x1, x2, ps, pa, pc⟩ : Ses)]).length = l.length + 1 := by simp
    have HF := Lib.hid (And.intro hpwF (And.intro hstF sF))
    clear hpwF hstF sF hpwA hstA sA hpoA hown9 hg9 hat9 hbo hownA
    (try go_wp2_with fail)
    go_ret
    exact ProgRes.of (n0 := w.heap.size + 1) HF.out.1 (by omega) (by omega) Hn3.out HF.out.2.1 HF.out.2.2 (by omega)
   ·
    obtain ⟨a, cap, rfl, hsa, hfm, hcap⟩ := hpw4.own.form
    by_cases q : l.length = 0
    ·
     have hd : decide ((0 : Int) < (l.length : Int)) = false := decide_eq_false (by omega)
     have hd2 : decide (0 < l.length) = false := decide_eq_false (by omega)
     clear q hsa hfm
     go_wp2_with fail
     go_ret
     exact ProgRes.of hpw4 (by omega) (by omega) (fun s hs => (Hn.out s hs).mono (by omega)) hst4 s4 (by omega)
    ·
     have hd : decide ((0 : Int) < (l.length : Int)) = true := decide_eq_true (by omega)
     obtain ⟨gq, rfl⟩ : ∃ gq, a = some ⟨gq, 0, none⟩ := by
      rcases hfm with rfl | ⟨b, rfl, -, -⟩
      ·
       rcases hsa with h | ⟨b, off, h, -⟩
       ·
        rw [h] at q; simp at q
       ·
        cases h
      ·
       exact ⟨b, rfl⟩
     clear hsa hfm
     go_wp2_with fail
     refine (next_any S _ l.length _ s4 (by omega) (by omega) (by omega)).mono ?_
     rintro e w5 ⟨r, ⟨hr1, hr2⟩, rfl, h5, s5⟩
     obtain ⟨k, rfl⟩ := Int.eq_ofNat_of_zero_le hr1
     have hk : k < l.length := by omega
     have hpw5 := hpw4.stp h5 (by omega)
     have hst5 := hst4.trans h5
     have hz5 := hst5.size
     clear hpw4 hst4 h5 s4 hd q
     have hsal : SA w5 (some ⟨gq, 0, none⟩) l := by obtain ⟨a', c', he, hh, _⟩ := hpw5.own.sa; simp only [Value.slice.injEq] at he; rw [he.1]; exact hh
     obtain ⟨mb, moff, ha', -, -, c2⟩ := hsal.sesC hk
     cases ha'
     rw [Nat.zero_add] at c2
     have hm : l[k] ∈ l := List.getElem_mem hk
     have hyn := Hn.out _ hm
     have Hgl := Lib.hid (hpw5.own.lt gq rfl)
     have hgl := Hgl.out
     have HYO := Lib.hid (fun W (h : Stp S w5 W) => (hpw5.stp h (by omega)).inn _ hm)
     have HPW := Lib.hid (fun W (h : Stp S w5 W) => hpw5.stp h (by omega))
     have Hap := Lib.hid (hpw5.apt _ hm)
     have HST := Lib.hid (fun (W W1 : World) (a2 : Option Addr) (c2 : Nat) (v2 : Value) (ps : List ByteArray) (h : Stp S w5 W) (hv2 : v2 = .slice a2 ps.length c2) (hkp : Kp (fun j => l[k].pv.ownBlock = some j) W W1) (h2 : Own (w.heap.size + 1) 9 W1 v2 ps) (hat : ∀ j, v2.ownBlock = some j → l[k].pv.ownBlock = some j ∨ W.heap.size ≤ j) => PW.papers (hpw5.stp h (by omega)) hk hv2 hkp h2 hat)
     have Hn2 : Hid (∀ (ps : List ByteArray) (a2 : Option Addr) (c2 : Nat), ps.length ≤ 101 → (∀ x ∈ ps, x.size ≤ 1000) → ∀ s ∈ l.set k ⟨l[k].slot, l[k].room, ps, a2, c2⟩, SesN 200 s) := fun ps a2 c2 h1 h2 s hs => by
      rcases List.mem_or_eq_of_mem_set hs with h | rfl
      ·
       exact (Hn.out s h).mono (by omega)
      ·
       exact ⟨hyn.1, hyn.2.1, by show ps.length ≤ _; omega, h2⟩
     have HPV : Hid (l[k].pv = .slice l[k].a1 l[k].papers.length l[k].c1) := rfl
     have hyp := hyn.2.2.1
     have Hyx := Lib.hid hyn.2.2.2
     clear hsal hm hyn hpw5
     generalize hpv : l[k].pv = pv at *
     generalize l[k].papers = y3 at *
     generalize l[k].a1 = y4 at *
     generalize l[k].c1 = y5 at *
     clear hpv
     have hpve := HPV.out
     subst hpve
     have hk1 : (0 : Int) ≤ (k : Int) := by omega
     have hk2 : (k : Int) < (l.length : Int) := by omega
     go_upto_region 12 with (fail)
     have hS5 := s5.lt
     refine wp_regionF (S := (fun wx => wx.cell? ⟨gq, k * 3 + 2, none⟩ = some (.slice y4 y3.length y5))) 14 (by kernel_rfl) ?hS (fun hHeld => ?_)
     case hS => exact c2
     refine rtakeF (i := 0) (d := (some 48)) (v := ?_) (n := 40) rfl (by kernel_rfl) (by kernel_rfl) (by kernel_rfl) (by kernel_rfl) (by kernel_rfl) (by kernel_rfl) (fun _ _ _ h => h) (by kernel_rfl) (by assumption) ?_ ?_
     rotate_left 1
     ·
      (intro wI hSI; (try dsimp only at hSI); go_simp; (try with_reducible rfl))
     simp only [Act.put, lsetA, lsetZ, lsetS]
     refine rtakeF (i := 1) (d := (some 49)) (v := ?_) (n := 40) rfl (by kernel_rfl) (by kernel_rfl) (by kernel_rfl) (by kernel_rfl) (by kernel_rfl) (by kernel_rfl) (fun _ _ _ h => h) (by kernel_rfl) (by assumption) ?_ ?_
     rotate_left 1
     ·
      (intro wI hSI; (try dsimp only at hSI); go_simp; (try with_reducible rfl))
     simp only [Act.put, lsetA, lsetZ, lsetS]
     refine rtakeF (i := 2) (d := (some 50)) (v := ?_) (n := 40) rfl (by kernel_rfl) (by kernel_rfl) (by kernel_rfl) (by kernel_rfl) (by kernel_rfl) (by kernel_rfl) (fun _ _ _ h => h) (by kernel_rfl) (by assumption) ?_ ?_
     rotate_left 1
     ·
      (intro wI hSI; (try dsimp only at hSI); go_simp; (try with_reducible rfl))
     simp only [Act.put, lsetA, lsetZ, lsetS]
     refine rtakeF (i := 3) (d := (some 51)) (v := ?_) (n := 40) rfl (by kernel_rfl) (by kernel_rfl) (by kernel_rfl) (by kernel_rfl) (by kernel_rfl) (by kernel_rfl) (fun _ _ _ h => h) (by kernel_rfl) (by assumption) ?_ ?_
     rotate_left 1
     ·
      (intro wI hSI; (try dsimp only at hSI); go_simp; (try with_reducible rfl))
     simp only [Act.put, lsetA, lsetZ, lsetS]
     refine rtakeF (i := 4) (d := (some 52)) (v := ?_) (n := 40) rfl (by kernel_rfl) (by kernel_rfl) (by kernel_rfl) (by kernel_rfl) (by kernel_rfl) (by kernel_rfl) (fun _ _ _ h => h) (by kernel_rfl) (by assumption) ?_ ?_
     rotate_left 1
     ·
      (intro wI hSI; (try dsimp only at hSI); go_simp; (try with_reducible rfl))
     simp only [Act.put, lsetA, lsetZ, lsetS]
     refine rtakeF (i := 5) (d := (some 53)) (v := ?_) (n := 40) rfl (by kernel_rfl) (by kernel_rfl) (by kernel_rfl) (by kernel_rfl) (by kernel_rfl) (by kernel_rfl) (fun _ _ _ h => h) (by kernel_rfl) (by assumption) ?_ ?_
     rotate_left 1
     ·
      (intro wI hSI; (try dsimp only at hSI); go_simp; (try with_reducible rfl))
     simp only [Act.put, lsetA, lsetZ, lsetS]
     refine rtakeF (i := 6) (d := (some 54)) (v := ?_) (n := 40) rfl (by kernel_rfl) (by kernel_rfl) (by kernel_rfl) (by kernel_rfl) (by kernel_rfl) (by kernel_rfl) (fun _ _ _ h => h) (by kernel_rfl) (by assumption) ?_ ?_
     rotate_left 1
     ·
      (intro wI hSI; (try dsimp only at hSI); go_simp; (try with_reducible rfl))
     simp only [Act.put, lsetA, lsetZ, lsetS]
     refine rtakeF (i := 7) (d := (some 55)) (v := ?_) (n := 40) rfl (by kernel_rfl) (by kernel_rfl) (by kernel_rfl) (by kernel_rfl) (by kernel_rfl) (by kernel_rfl) (fun _ _ _ h => h) (by kernel_rfl) (by assumption) ?_ ?_
     rotate_left 1
     ·
      (intro wI hSI; (try dsimp only at hSI); go_simp; (try with_reducible rfl))
     simp only [Act.put, lsetA, lsetZ, lsetS]
     have hq6 := (Stp.refl S w5).drew.alloc (.cells #[.string ⟨#[112, 97]⟩, .string ⟨#[112, 98]⟩, .string ⟨#[110, 111]⟩] 9)
     have sq6 := s5.drew.alloc (.cells #[.string ⟨#[112, 97]⟩, .string ⟨#[112, 98]⟩, .string ⟨#[110, 111]⟩] 9)
     refine rcallF (i := 8) (d := (some 56)) (by kernel_rfl) rfl (by kernel_rfl) (fun K hK => ?_)
     go_simp
     refine hK.out _ _ (.inr ?hS) (fun hHeld0 => ?_)
     case hS => exact cellKp (Kp.of_stp (X := fun j => j = S) hq6 rfl) (fun e => by omega) c2
     clear hK K
     have hHeld := hHeld0.resolve_left (by decide)
     simp only [Act.put, lsetA, lsetZ, lsetS]
     refine rcallF (i := 9) (d := (some 57)) (by kernel_rfl) rfl (by kernel_rfl) (fun K hK => ?_)
     go_simp
     go_at_call 22; refine (one_any S _ w5.heap.size 3 3 9 _ _ sq6 (by omega) (Box.new w5.drew _ _) (by omega) rfl (by omega) (by omega) (by simp; decide)).mono ?_; rintro e w6 ⟨x, hx, rfl, h6, s6⟩; have hq7 := hq6.trans h6
     refine hK.out _ _ (.inr ?hS) (fun hHeld0 => ?_)
     case hS => exact cellKp (Kp.of_stp (X := fun j => j = S) hq7 rfl) (fun e => by omega) c2
     clear hK K
     have hHeld := hHeld0.resolve_left (by decide)
     simp only [Act.put, lsetA, lsetZ, lsetS]
     have hq8 := hq7.alloc (.cells #[.string x] 9)
     have s8 := s6.alloc (.cells #[.string x] 9)
     have hbo := Box.new w6 9 #[.string x]
     have hz6 := hq7.size
     refine rcallF (i := 10) (d := (some 58)) (by kernel_rfl) rfl (by kernel_rfl) (fun K hK => ?_)
     go_simp
     refine hK.out _ _ (.inr ?hS) (fun hHeld0 => ?_)
     case hS => exact cellKp (Kp.of_stp (X := fun j => j = S) hq8 rfl) (fun e => by omega) c2
     clear hK K
     have hHeld := hHeld0.resolve_left (by decide)
     simp only [Act.put, lsetA, lsetZ, lsetS]
     have hyo := HYO.out _ hq8
     have hpw8 := HPW.out _ hq8
     have hfr8 := hpw8.own.box
     refine rcallF (i := 11) (d := (some 59)) (by kernel_rfl) rfl (by kernel_rfl) (fun K hK => ?_)
     refine step_append_lie (α := ByteArray) (by rfl) _ _ 57 (by rfl) 9 16 (.string ⟨#[]⟩) Tryz.underlying57 Tryz.infoString (by rfl) (.slice y4 y3.length y5) y3 (by rfl) hyo x _ (by rfl) hbo (by omega) (by omega) (by simp; omega) ?_; intro g9 cap9 w9 hown9 hg9 hat9; have hkp9 := (Kp.refl (fun j => (Value.slice y4 y3.length y5).ownBlock = some j) _).grown hg9 (fun j hj => .inl hj); have hgn : ¬ ((Value.slice y4 y3.length y5).ownBlock = some gq) := (fun e => Hap.out gq rfl e); have c9 := cellKp hkp9 hgn (cellKp (Kp.of_stp (X := fun j => j = S) hq8 rfl) (fun e => by omega) c2)
     refine hK.out _ _ (.inr ?hS) (fun hHeld0 => ?_)
     case hS => exact c9
     clear hK K
     have hHeld := hHeld0.resolve_left (by decide)
     simp only [Act.put, lsetA, lsetZ, lsetS]
     obtain ⟨cr, hbx8⟩ := hfr8
     have hfr9 := (hbx8.kp hkp9 hgn).frozen (k * 3 + 2)
     refine rtakeF (i := 12) (d := (some 60)) (v := ?_) (n := 40) rfl (by kernel_rfl) (by kernel_rfl) (by kernel_rfl) (by kernel_rfl) (by kernel_rfl) (by kernel_rfl) (fun _ _ _ h => h) (by kernel_rfl) (by assumption) ?_ ?_
     rotate_left 1
     ·
      (intro wI hSI; (try dsimp only at hSI); go_simp; (try with_reducible rfl))
     simp only [Act.put, lsetA, lsetZ, lsetS]
     refine rtakeF (i := 13) (d := (some 61)) (v := ?_) (n := 40) rfl (by kernel_rfl) (by kernel_rfl) (by kernel_rfl) (by kernel_rfl) (by kernel_rfl) (by kernel_rfl) (fun _ _ _ h => h) (by kernel_rfl) (by assumption) ?_ ?_
     rotate_left 1
     ·
      (intro wI hSI; (try dsimp only at hSI); go_simp; (try with_reducible rfl))
     simp only [Act.put, lsetA, lsetZ, lsetS]
     refine rcallF (i := 14) (d := none) (by kernel_rfl) rfl (by kernel_rfl) (fun K hK => ?_)
     go_simp
     refine hK.out undef _ (.inl rfl) (fun _ => ?_)
     clear hK K
     simp only [Act.put, lsetA, lsetZ, lsetS]
     refine wpAnyF_done (by kernel_rfl) ?_ _
     have hlen9 : (y3 ++ [x]).length = y3.length + 1 := by simp
     have hpwF := HST.out _ w9 (some ⟨g9, 0, none⟩) cap9 (.slice (some ⟨g9, 0, none⟩) (y3.length + 1) cap9) (y3 ++ [x]) hq8 (by rw [hlen9]) hkp9 hown9 (fun j hj => by
      obtain rfl : g9 = j := Option.some.inj hj
      exact hat9.imp id (fun e => Nat.le_of_eq e.symm))
     have hol8 := hyo.lt
     have hstF := ((hst5.trans hq8).grown hg9 (fun b hb => .inr (by have := (hol8 b hb).1; omega))).setCell (p := ⟨gq, k * 3 + 2, none⟩) (.inr (by show w.heap.size ≤ gq; omega)) (.slice (some ⟨g9, 0, none⟩) (y3.length + 1) cap9)
     have sF := (s8.grown hg9 (fun b hb => by have := (hol8 b hb).1; omega)).setOther (p := ⟨gq, k * 3 + 2, none⟩) (by show S < gq; omega) (.slice (some ⟨g9, 0, none⟩) (y3.length + 1) cap9)
     have hnF := Hn2.out (y3 ++ [x]) (some ⟨g9, 0, none⟩) cap9 (by rw [hlen9]; omega) (fun z hz => by
      rcases List.mem_append.1 hz with h | h
      ·
       exact Hyx.out z h
      ·
       rw [List.mem_singleton] at h; subst h; exact hx)
     have HF := Lib.hid (And.intro hpwF (And.intro hstF sF))
     clear hHeld HST HYO HPW hpwF hstF sF hpw8 hyo hbo hbx8 hg9 hown9 hat9 hkp9 hfr9 c9 c2
     go_wp2_with fail
     go_ret
     exact ProgRes.of (n0 := w.heap.size + 1) HF.out.1 (by omega) (by rw [List.length_set]; omega) hnF HF.out.2.1 HF.out.2.2 (by omega)
   ·
    obtain ⟨a, cap, rfl, hsa, hfm, hcap⟩ := hpw4.own.form
    by_cases q : l.length = 0
    ·
     have hd : decide ((0 : Int) < (l.length : Int)) = false := decide_eq_false (by omega)
     have hd2 : decide (0 < l.length) = false := decide_eq_false (by omega)
     clear q hsa hfm
     go_wp2_with fail
     go_ret
     exact ProgRes.of hpw4 (by omega) (by omega) (fun s hs => (Hn.out s hs).mono (by omega)) hst4 s4 (by omega)
    ·
     have hd : decide ((0 : Int) < (l.length : Int)) = true := decide_eq_true (by omega)
     obtain ⟨gq, rfl⟩ : ∃ gq, a = some ⟨gq, 0, none⟩ := by
      rcases hfm with rfl | ⟨b, rfl, -, -⟩
      ·
       rcases hsa with h | ⟨b, off, h, -⟩
       ·
        rw [h] at q; simp at q
       ·
        cases h
      ·
       exact ⟨b, rfl⟩
     clear hsa hfm
     go_wp2_with fail
     refine (next_any S _ l.length _ s4 (by omega) (by omega) (by omega)).mono ?_
     rintro e w5 ⟨r, ⟨hr1, hr2⟩, rfl, h5, s5⟩
     obtain ⟨k, rfl⟩ := Int.eq_ofNat_of_zero_le hr1
     have hk : k < l.length := by omega
     have hpw5 := hpw4.stp h5 (by omega)
     have hst5 := hst4.trans h5
     have hz5 := hst5.size
     clear hpw4 hst4 h5 s4 hd q
     have hm : l[k] ∈ l := List.getElem_mem hk
     have hyn := Hn.out _ hm
     have hgl := hpw5.own.lt gq rfl
     have hS5 := s5.lt
     have sq6 := s5.alloc (.cells #[.string ⟨#[115, 97]⟩, .string ⟨#[115, 98]⟩] 9)
     have hpq6 := hpw5.alloc (.cells #[.string ⟨#[115, 97]⟩, .string ⟨#[115, 98]⟩] 9)
     have hsq6 := hst5.alloc (.cells #[.string ⟨#[115, 97]⟩, .string ⟨#[115, 98]⟩] 9)
     have hk1 : (0 : Int) ≤ (k : Int) := by omega
     have hk2 : (k : Int) < (l.length : Int) := by omega
     clear hm hpw5 hst5 s5
     go_wp2_with fail
     refine (one_any S _ w5.heap.size 2 2 9 _ _ sq6 (by omega) (Box.new w5 _ _) (by omega) rfl (by omega) (by omega) (by simp; decide)).mono ?_
     rintro e w6 ⟨x, hx, rfl, h6, s6⟩
     have hpw6 := hpq6.stp h6 (by omega)
     have hst6 := hsq6.trans h6
     clear hpq6 hsq6 sq6 h6
     have hsal : SA w6 (some ⟨gq, 0, none⟩) l := by obtain ⟨a', c', he, hh, _⟩ := hpw6.own.sa; simp only [Value.slice.injEq] at he; rw [he.1]; exact hh
     obtain ⟨mb, moff, ha', c0, -, -⟩ := hsal.sesC hk
     cases ha'
     rw [Nat.zero_add] at c0
     obtain ⟨cr, hbx⟩ := hpw6.own.box
     have hfr := hbx.frozen (k * 3)
     have hpwF := hpw6.slot hk x
     have hstF := hst6.setCell (p := ⟨gq, k * 3, none⟩) (.inr (by show w.heap.size ≤ gq; omega)) (.string x)
     have sF := s6.setOther (p := ⟨gq, k * 3, none⟩) (by show S < gq; omega) (.string x)
     have hnF : Hid (∀ s ∈ l.set k ⟨x, l[k].room, l[k].papers, l[k].a1, l[k].c1⟩, SesN 200 s) := fun s hs => by
      rcases List.mem_or_eq_of_mem_set hs with h | rfl
      ·
       exact (Hn.out s h).mono (by omega)
      ·
       exact ⟨hx, hyn.2.1, by have := hyn.2.2.1; show l[k].papers.length ≤ _; omega, hyn.2.2.2⟩
     have HF := Lib.hid (And.intro hpwF (And.intro hstF sF))
     have hll : Hid ((l.set k ⟨x, l[k].room, l[k].papers, l[k].a1, l[k].c1⟩).length = l.length) := List.length_set ..
     clear hsal hbx hpw6 hst6 s6 hpwF hstF sF
     generalize l.set k ⟨x, l[k].room, l[k].papers, l[k].a1, l[k].c1⟩ = l2 at *
     generalize l[k] = y at *
     go_wp2_with fail
     go_ret
     exact ProgRes.of (n0 := w.heap.size + 1) HF.out.1 (by omega) (by have := hll.out; omega) hnF.out HF.out.2.1 HF.out.2.2 (by omega)
   ·
    obtain ⟨a, cap, rfl, hsa, hfm, hcap⟩ := hpw4.own.form
    go_wp2_with fail
    refine (reverseSes_any (w.heap.size + 1) l a cap _ hpw4.own (by omega)).mono ?_
    rintro e w5 ⟨l', rfl, hll, hin, hown, hkp⟩
    have hol := hpw4.own.lt
    have hst5 := hst4.thenKp hkp (fun j hj => .inr (by have := (hol j hj).1; omega))
    have s5 := s4.kp hkp (fun j hj e => by have := (hol j e).1; omega)
    go_wp2_with fail
    go_ret
    refine ⟨a, cap, l', by rw [hll] <;> rfl, fun W hW => ⟨?_, fun s hs => ?_⟩, by omega, by omega, fun s hs => ⟨(Hn.out s (hin s hs)).mono (by omega), by
       obtain ⟨a', c', he, -, -, hc⟩ := (hpw4.inn s (hin s hs)).form
       unfold Ses.pv at he
       simp only [Value.slice.injEq] at he
       rw [he.2.2]; exact hc⟩, hst5, s5.mono (by omega)⟩
    ·
     obtain ⟨a', c', he, h1, -⟩ := (hown.stp hW (by omega)).sa
     simp only [Value.slice.injEq] at he
     rw [he.1]; exact h1
    ·
     have h1 := ((hpw4.inn s (hin s hs)).kp hkp (fun j hj e => hpw4.apt s (hin s hs) j e hj)).stp hW (by omega)
     obtain ⟨a', c', he, h2, -⟩ := h1.sa
     unfold Ses.pv at he
     simp only [Value.slice.injEq] at he
     rw [he.1]; exact h2
end Go.Proofs.YtldgphhiajhfhaaGreatDoor
namespace Go.Proofs.YtldgphhiajhfhaaGreatDoor
open Go.RowKit
set_option linter.unusedVariables false
set_option linter.unusedSimpArgs false
theorem nd_leS {α : Type} [DecidableEq α] : ∀ (l m : List α), l.Nodup → (∀ x ∈ l, x ∈ m) → l.length ≤ m.length
 | [], _, _, _ => Nat.zero_le _
 | x :: l, m, h, hs => by
  rw [List.nodup_cons] at h
  have hx := hs x List.mem_cons_self
  have h1 := nd_leS l (m.erase x) h.2 (fun y hy => (List.mem_erase_of_ne (fun e : y = x => h.1 (by rw [← e]; exact hy))).2 (hs y (List.mem_cons_of_mem _ hy)))
  rw [List.length_erase_of_mem hx] at h1
  have h2 := List.length_pos_of_mem hx
  rw [List.length_cons]; omega
theorem seen_ndS {g : Grd} {p : List Ses} (h : firstErr (sesE g p) p.length = 0) : ∀ k, k ≤ p.length → (seenTo p k).Nodup
 | 0, _ => by unfold seenTo; simp
 | k + 1, hk => by
  have hkl : k < p.length := by omega
  have ih := seen_ndS h k (by omega)
  rw [seenTo_succ hkl]
  have h1 := firstErr_all h k hkl
  rw [sesE_at hkl] at h1
  split at h1
  ·
   exact absurd h1 (by decide)
  split at h1
  ·
   exact absurd h1 (by decide)
  split at h1
  ·
   exact absurd h1 (by decide)
  split at h1
  ·
   next h4 => exact absurd h1 h4
  next h4 =>
  have h5 := firstErr_all (Classical.not_not.1 h4)
  have hj : ∀ j, j ≤ p[k].papers.length → (seenTo p k ++ p[k].papers.take j).Nodup := by
   intro j
   induction j with
   | zero => intro _; rw [List.take_zero, List.append_nil]; exact ih
   | succ j ihj =>
    intro hjl
    have hjj : j < p[k].papers.length := by omega
    have h6 := h5 j hjj
    rw [papE_at hjj] at h6
    split at h6
    ·
     exact absurd h6 (by decide)
    split at h6
    ·
     exact absurd h6 (by decide)
    next h7 =>
    rw [List.take_succ_eq_append_getElem hjj, ← List.append_assoc, List.nodup_append]
    refine ⟨ihj (by omega), by simp, ?_⟩
    intro a ha b hb e
    rw [List.mem_singleton] at hb
    subst hb
    subst e
    exact h7 (inB_iff.2 ha)
  have := hj _ (Nat.le_refl _)
  rwa [List.take_length] at this
theorem keyB_40 {x : ByteArray} (h : keyB x = true) : x.size ≤ 40 := by
 unfold keyB at h
 exact (of_decide_eq_true h).2.1
theorem room_40 {l : List Rom} (h : roomsFault l = 0) : ∀ r ∈ l, r.1.size ≤ 40 := fun r hr => by
 obtain ⟨k, hk, rfl⟩ := List.mem_iff_getElem.1 hr
 unfold roomsFault at h
 split at h
 ·
  exact absurd h (by decide)
 have h2 := firstErr_all h k hk
 unfold roomE at h2
 rw [List.getElem?_eq_getElem hk] at h2
 simp only at h2
 split at h2
 ·
  exact absurd h2 (by decide)
 ·
  next h3 => exact keyB_40 (by simpa using h3)
theorem slot_40 {l : List Slt} (h : slotsFault l = 0) : ∀ r ∈ l, r.1.size ≤ 40 := fun r hr => by
 obtain ⟨k, hk, rfl⟩ := List.mem_iff_getElem.1 hr
 unfold slotsFault at h
 split at h
 ·
  exact absurd h (by decide)
 have h2 := firstErr_all h k hk
 unfold slotE at h2
 rw [List.getElem?_eq_getElem hk] at h2
 simp only at h2
 split at h2
 ·
  exact absurd h2 (by decide)
 ·
  next h3 => exact keyB_40 (by simpa using h3)
theorem talk_40 {l : List Tlk} (h : talksFault l = 0) : ∀ r ∈ l, r.paper.size ≤ 40 := fun r hr => by
 obtain ⟨k, hk, rfl⟩ := List.mem_iff_getElem.1 hr
 unfold talksFault at h
 split at h
 ·
  exact absurd h (by decide)
 have h2 := firstErr_all h k hk
 unfold talkE at h2
 rw [List.getElem?_eq_getElem hk] at h2
 simp only at h2
 split at h2
 ·
  exact absurd h2 (by decide)
 ·
  next h3 => exact keyB_40 (by simpa using h3)
/-- What a session without fault has. -/
theorem form_more {g : Grd} {p : List Ses} (h : firstErr (sesE g p) p.length = 0) : ∀ s ∈ p, (roomOf g s.room).isSome = true ∧ 0 < s.papers.length := by
 intro s hs
 obtain ⟨k, hk, rfl⟩ := List.mem_iff_getElem.1 hs
 have h1 := firstErr_all h k hk
 rw [sesE_at hk] at h1
 by_cases c1 : (!(slotOf g p[k].slot).isSome || !(roomOf g p[k].room).isSome) = true
 ·
  rw [if_pos c1] at h1; exact absurd h1 (by decide)
 ·
  rw [if_neg c1] at h1
  have hsl : (roomOf g p[k].room).isSome = true := by
   cases e : (roomOf g p[k].room).isSome
   ·
    rw [e] at c1; exact absurd (by simp) c1
   ·
    rfl
  refine ⟨hsl, ?_⟩
  by_cases c2 : (decide (0 < k) && decide (0 ≤ sesOrd (p[k - 1]'(by omega)) p[k])) = true
  ·
   rw [if_pos c2] at h1; exact absurd h1 (by decide)
  ·
   rw [if_neg c2] at h1
   by_cases c3 : p[k].papers.length = 0
   ·
    rw [if_pos c3] at h1; exact absurd h1 (by decide)
   ·
    omega
theorem papsT_43 : ∀ l : List ByteArray, (∀ x ∈ l, x.size ≤ 40) → (papsT l).length ≤ 43 * l.length
 | [], _ => Nat.zero_le _
 | x :: r, h => by
  have ih := papsT_43 r (fun y hy => h y (List.mem_cons_of_mem _ hy))
  have h1 := h x List.mem_cons_self
  have h2 := papT_len x
  have e : papsT (x :: r) = papT x ++ papsT r := by unfold papsT; simp
  rw [e, List.length_append, List.length_cons]; omega
theorem progT_133 : ∀ p : List Ses, (∀ s ∈ p, s.slot.size ≤ 40 ∧ s.room.size ≤ 40 ∧ 0 < s.papers.length ∧ ∀ x ∈ s.papers, x.size ≤ 40) → (progT p).length ≤ 133 * (p.flatMap (·.papers)).length
 | [], _ => Nat.zero_le _
 | s :: r, h => by
  have ih := progT_133 r (fun y hy => h y (List.mem_cons_of_mem _ hy))
  obtain ⟨h1, h2, h3, h4⟩ := h s List.mem_cons_self
  have h5 := papsT_43 s.papers h4
  have h6 := headT_len s.slot s.room
  have e : progT (s :: r) = headT s.slot s.room ++ papsT s.papers ++ progT r := by unfold progT sesT; simp
  rw [e, List.length_append, List.length_append, List.flatMap_cons, List.length_append]
  omega
theorem find_mem1 {α : Type} {q : α → Bool} {l : List α} (h : (l.find? q).isSome = true) : ∃ x ∈ l, q x = true := by
 obtain ⟨x, hx⟩ := Option.isSome_iff_exists.1 h
 exact ⟨x, List.mem_of_find?_eq_some hx, List.find?_some hx⟩
/-- The text of a right programme of a right grid. -/
theorem progT_small {g : Grd} {p : List Ses} (hg : gridFault g = 0) (hp : progFault g p = 0) : (progT p).length ≤ 133 * g.talks.length := by
 have hf := form_of hp
 obtain ⟨g1, g2, g3, -, -⟩ := grid_parts hg
 have hpap : ∀ s ∈ p, ∀ x ∈ s.papers, x ∈ g.talks.map (·.paper) := fun s hs x hx => by
  obtain ⟨t, ht, e⟩ := find_mem1 ((form_ok hf s hs).2 x hx)
  exact List.mem_map.2 ⟨t, ht, of_decide_eq_true e⟩
 have h1 := progT_133 p (fun s hs => by
  refine ⟨?_, ?_, (form_more hf s hs).2, fun x hx => ?_⟩
  ·
   obtain ⟨t, ht, e⟩ := find_mem1 (form_ok hf s hs).1
   rw [← of_decide_eq_true e]; exact slot_40 g2 t ht
  ·
   obtain ⟨t, ht, e⟩ := find_mem1 (form_more hf s hs).1
   rw [← of_decide_eq_true e]; exact room_40 g1 t ht
  ·
   obtain ⟨t, ht, e⟩ := List.mem_map.1 (hpap s hs x hx)
   rw [← e]; exact talk_40 g3 t ht)
 have h2 := seen_ndS hf p.length (Nat.le_refl _)
 unfold seenTo at h2
 rw [List.take_length] at h2
 have h3 := nd_leS _ (g.talks.map (·.paper)) h2 (fun x hx => by
  obtain ⟨s, hs, hx⟩ := List.mem_flatMap.1 hx
  exact hpap s hs x hx)
 rw [List.length_map] at h3
 exact Nat.le_trans h1 (Nat.mul_le_mul_left _ h3)
/-- One of some strings, of at most m bytes. -/
theorem oneM_any (S : Nat) (B : Int) (m b n cap T : Nat) (vs : Array Value) (w : World) (hs : Strm S B w) (hB : B ≤ 1000000000) (hbox : Box w b T vs) (hbS : b ≠ S) (hn : vs.size = n) (hl1 : 1 ≤ n) (hl2 : n ≤ 1000)
  (hc : ∀ v ∈ vs.toList, ∃ s : ByteArray, v = .string s ∧ s.size ≤ m) :
  Calls Tryz.prog 22 #[.pointer (some ⟨S, 0, none⟩), .slice (some ⟨b, 0, none⟩) n cap] w (fun e w' => ∃ x : ByteArray, x.size ≤ m ∧ e = .returned (.string x) ∧ Stp S w w' ∧ Strm S (B + 1) w') := by
 have Hc := Lib.hid hc
 clear hc
 go_enter Tryz.func22, Tryz.ntmps22
 go_wp2_with fail
 refine (next_any S B _ _ hs hB (by omega) (by omega)).mono ?_
 rintro e w' ⟨r, ⟨hr, hr2⟩, rfl, h1, h2⟩
 obtain ⟨i, rfl⟩ := Int.eq_ofNat_of_zero_le hr
 have hi : i < n := by omega
 obtain ⟨s, hs1, hs2⟩ := Hc.out vs[i] (by simp)
 have hc : w'.cell? ⟨b, i, none⟩ = some (.string s) := by rw [(hbox.stp h1 hbS).cell i, Array.getElem?_eq_getElem (by omega), hs1]
 go_wp2_with fail
 go_ret
 exact ⟨s, hs2, rfl, h1, h2⟩
set_option maxRecDepth 100000 in
set_option maxHeartbeats 4000000 in
theorem progTextM_any (S : Nat) (B : Int) (g : Grd) (w : World) (hs : Strm S B w) (hB : B ≤ 999800000) (hg : ∀ W : World, (∀ k, k < w.heap.size → k ≠ S → W.heap[k]? = w.heap[k]?) → GRd W g) (hz : GSm g) (hnt : g.talks.length ≤ 6) :
  Calls Tryz.prog 10 #[.pointer (some ⟨S, 0, none⟩), g.agg] w (SomeTxt S (B + 1100) 1000 w) := by
 have hSl := hs.lt
 have HGF := Lib.hid (fun W (h : GRd W g) => gridFaultR_any g W h hz)
 have HRP := Lib.hid (fun B' W (hst : Stp S w W) (hs : Strm S B' W) (hB' : B' ≤ 999900000) => rightProgV_any S B' g W hs hB' (fun W' hW' => hg W' (fun k hk hkS => by rw [hW' k (by have := hst.size; omega) hkS]; exact hst.block k hk hkS)) hz (by omega))
 have HG := Lib.hid hg
 have HSZ : Hid (gridFault g = 0 → ∀ l, progFault g l = 0 → (progT l).length ≤ 798) := fun h l hl => by have := progT_small h hl; omega
 rw [Grd.agg_eq] at HGF HRP ⊢
 have hX := Box.new w 32 #[.slice g.ra g.rooms.length g.rc, .slice g.sa g.slots.length g.sc, .slice g.ta g.talks.length g.tc, .slice g.wa g.wishes.length g.wc, .slice g.ba g.bans.length g.bc]
 have hst0 := (Stp.refl S w).alloc (.cells #[.slice g.ra g.rooms.length g.rc, .slice g.sa g.slots.length g.sc, .slice g.ta g.talks.length g.tc, .slice g.wa g.wishes.length g.wc, .slice g.ba g.bans.length g.bc] 32)
 have hs0 := hs.alloc (.cells #[.slice g.ra g.rooms.length g.rc, .slice g.sa g.slots.length g.sc, .slice g.ta g.talks.length g.tc, .slice g.wa g.wishes.length g.wc, .slice g.ba g.bans.length g.bc] 32)
 generalize gridFault g = gf at *
 clear hg hs
 go_enter Tryz.func10, Tryz.ntmps10
 go_upto_region 1 with (fail)
 generalize w.alloc (.cells #[.slice g.ra g.rooms.length g.rc, .slice g.sa g.slots.length g.sc, .slice g.ta g.talks.length g.tc, .slice g.wa g.wishes.length g.wc, .slice g.ba g.bans.length g.bc] 32) = w1 at *
 have hX_l := hX.lt; have hX_0 := hX.cell 0; have hX_1 := hX.cell 1; have hX_2 := hX.cell 2; have hX_3 := hX.cell 3; have hX_4 := hX.cell 4; simp at hX_0 hX_1 hX_2 hX_3 hX_4
 go_wp2_with fail
 clear hX_l hX_0 hX_1 hX_2 hX_3 hX_4
 refine (HGF.out _ (HG.out _ (fun k hk hkS => hst0.block k hk hkS))).mono ?_
 rintro e w2 ⟨rfl, hb2⟩
 have hX2 := hX.below hb2
 have hst2 := hst0.trans (Stp.of_below hb2)
 have hs2 := hs0.below hb2
 clear hX hst0 hs0 hb2 HGF
 go_upto_if 8 with (fail)
 go_cut [5] (fun v wx => ∃ t : ByteArray, v = .string t ∧ t.size ≤ 798 ∧ Stp S w wx ∧ Strm S (B + 1000) wx)
 case first =>
  by_cases h0 : gf = 0
  ·
   subst h0
   have HSZ2 := Lib.hid (HSZ.out rfl)
   clear HSZ
   have hX2_l := hX2.lt; have hX2_0 := hX2.cell 0; have hX2_1 := hX2.cell 1; have hX2_2 := hX2.cell 2; have hX2_3 := hX2.cell 3; have hX2_4 := hX2.cell 4; simp at hX2_0 hX2_1 hX2_2 hX2_3 hX2_4
   go_wp2_with (fail)
   clear hX2_l hX2_0 hX2_1 hX2_2 hX2_3 hX2_4
   refine (HRP.out B _ hst2 hs2 (by omega)).mono ?_
   rintro e w3 ⟨v, l, rfl, hpw, hl, hn, hst3, hs3, hf⟩
   obtain ⟨pa, pc, rfl, hprg, -, -⟩ := hpw.prg
   have hsz := HSZ2.out l hf
   have HPT := Lib.hid (progText_any l pa pc w3 hprg (by omega) (by omega))
   have hst4 := hst2.trans hst3
   clear hpw hprg hf hn hX2 hst3 hst2 hs2
   go_wp2_with fail
   refine HPT.out.mono ?_
   rintro e w4 ⟨rfl, hb4⟩
   have hst5 := hst4.trans (Stp.of_below hb4)
   have hs5 := hs3.below hb4
   go_wp2_with fail
   go_meet
   exact ⟨_, rfl, by show (List.toArray _).size ≤ _; rw [List.size_toArray]; exact hsz, hst5, hs5⟩
  ·
   have hq : (gf == 0) = false := by simpa using h0
   clear h0
   go_wp2_with (fail)
   go_meet
   exact ⟨⟨#[]⟩, rfl, Nat.zero_le _, hst2, hs2.mono (by omega)⟩
 case rest =>
 obtain ⟨t, rfl, ht, hst3, hs3⟩ := hcut
 clear hX2 hst2 hs2 HRP HG HSZ
 go_wp2_with fail
 refine (flip_any S _ 2 _ hs3 (by omega) (by omega) (by omega)).mono ?_
 rintro e w4 ⟨r4, rfl, h4, s4⟩
 have hst4 := hst3.trans h4
 clear h4 hst3 hs3
 go_upto_if 14 with (fail)
 go_cut [5] (fun v wx => ∃ t : ByteArray, v = .string t ∧ t.size ≤ 804 ∧ Stp S w wx ∧ Strm S (B + 1010) wx)
 case first =>
  cases r4
  ·
   go_wp2_with (fail)
   go_meet
   exact ⟨t, rfl, by omega, hst4, s4.mono (by omega)⟩
  ·
   have hz4 := hst4.size
   go_wp2_with (fail)
   refine (oneM_any S _ 2 _ 4 4 9 _ _ (s4.alloc _) (by omega) (Box.new _ _ _) (by omega) rfl (by omega) (by omega) (by simp; decide)).mono ?_
   rintro e w5 ⟨x, hx, rfl, h5, s5⟩
   have hst5 := (hst4.alloc _).trans h5
   clear h5 s4 hst4
   go_wp2_with fail
   refine (changed_any S _ t x _ s5 (by omega) (by omega) (by omega)).mono ?_
   rintro e w6 ⟨y, hy, rfl, h6, s6⟩
   have hst6 := hst5.trans h6
   go_wp2_with fail
   go_meet
   exact ⟨y, rfl, by omega, hst6, s6.mono (by omega)⟩
 case rest =>
 clear ht t
 obtain ⟨t, rfl, ht, hst5, hs5⟩ := hcut
 clear s4 hst4
 go_wp2_with fail
 refine (flip_any S _ 8 _ hs5 (by omega) (by omega) (by omega)).mono ?_
 rintro e w6 ⟨r6, rfl, h6, s6⟩
 have hst6 := hst5.trans h6
 have hz6 := hst6.size
 clear h6 hst5 hs5
 cases r6
 ·
  go_wp2_with fail
  go_ret
  exact ⟨t, by omega, rfl, hst6, s6.mono (by omega)⟩
 ·
  go_wp2_with fail
  refine (oneM_any S _ 20 _ 5 5 9 _ _ (s6.alloc _) (by omega) (Box.new _ _ _) (by omega) rfl (by omega) (by omega) (by simp; decide)).mono ?_
  rintro e w7 ⟨x, hx, rfl, h7, s7⟩
  have hst7 := (hst6.alloc _).trans h7
  clear h7 s6 hst6
  go_wp2_with fail
  go_ret
  exact ⟨_, by simp; omega, rfl, hst7, s7.mono (by omega)⟩
end Go.Proofs.YtldgphhiajhfhaaGreatDoor
