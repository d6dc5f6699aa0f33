/- Blocks whose cells a function tells; tables of numbers: one block of headers, one block a row. -/
import Derived.Test.YtcjcdbhobehlpaaGreatDoorKeep
import Derived.Test.YtcjcdbhobehlpaaGreatDoorStrP
import Derived.Laws.MakeOwn
import Derived.Laws.OwnMore
namespace Go.Proofs.YtcjcdbhobehlpaaGreatDoor
open Go.RowKit
set_option linter.unusedVariables false
set_option linter.unusedSimpArgs false

def upd {α : Type} (f : Nat → α) (k : Nat) (v : α) : Nat → α := fun x => if x = k then v else f x
theorem upd_at {α : Type} (f : Nat → α) (k : Nat) (v : α) : upd f k v k = v := if_pos rfl
theorem upd_ne {α : Type} (f : Nat → α) {k x : Nat} (v : α) (h : x ≠ k) : upd f k v x = f x := if_neg h
def cellsF {α : Type} (enc : α → Value) (f : Nat → α) (n : Nat) : Array Value := ((List.range n).map (fun i => enc (f i))).toArray
theorem cellsF_size {α : Type} (enc : α → Value) (f : Nat → α) (n : Nat) : (cellsF enc f n).size = n := by
 unfold cellsF
 rw [List.size_toArray, List.length_map, List.length_range]
theorem cellsF_get {α : Type} (enc : α → Value) (f : Nat → α) {n i : Nat} (h : i < n) : (cellsF enc f n)[i]? = some (enc (f i)) := by
 unfold cellsF
 rw [List.getElem?_toArray, List.getElem?_map, List.getElem?_range h]
 rfl
theorem cellsF_set {α : Type} (enc : α → Value) (f : Nat → α) (n i : Nat) (v : α) : (cellsF enc f n).setIfInBounds i (enc v) = cellsF enc (upd f i v) n := by
 apply Array.ext_getElem?
 intro j
 by_cases hj : j < n
 ·
  rw [cellsF_get _ _ hj, Array.getElem?_setIfInBounds]
  by_cases e : i = j
  ·
   subst e
   rw [if_pos rfl, if_pos (by rw [cellsF_size]; exact hj), upd_at]
  ·
   rw [if_neg e, cellsF_get _ _ hj, upd_ne _ _ (fun h => e h.symm)]
 ·
  rw [Array.getElem?_eq_none (by rw [Array.size_setIfInBounds, cellsF_size]; omega), Array.getElem?_eq_none (by rw [cellsF_size]; omega)]
theorem cellsF_rep {α : Type} (enc : α → Value) (v : α) (n : Nat) : cellsF enc (fun _ => v) n = Array.replicate n (enc v) := by
 unfold cellsF
 rw [← Array.toList_inj, Array.toList_replicate]
 show List.map _ _ = _
 rw [List.map_const', List.length_range]
theorem cellsF_congr {α : Type} (enc : α → Value) {f g : Nat → α} {n : Nat} (h : ∀ i, i < n → f i = g i) : cellsF enc f n = cellsF enc g n := by
 unfold cellsF
 congr 1
 exact List.map_congr_left (fun i hi => by rw [h i (List.mem_range.1 hi)])
theorem Box.cellF {α : Type} {enc : α → Value} {f : Nat → α} {n : Nat} {w : World} {b : Nat} {T : TypeId} (h : Box w b T (cellsF enc f n)) {i : Nat} (hi : i < n) : w.cell? ⟨b, i, none⟩ = some (enc (f i)) := by
 rw [h.cell i, cellsF_get _ _ hi]
theorem Box.setF {α : Type} {enc : α → Value} {f : Nat → α} {n : Nat} {w : World} {b : Nat} {T : TypeId} (h : Box w b T (cellsF enc f n)) (i : Nat) (v : α) : Box (w.setCell ⟨b, i, none⟩ (enc v)) b T (cellsF enc (upd f i v) n) := by
 rw [← cellsF_set]
 exact h.set i _
def intF (v : Int) : Value := .int .i64 v
def hdF (n : Nat) (o : Option Nat) : Value := match o with | none => .slice none 0 0 | some b => .slice (some ⟨b, 0, none⟩) n n
/-- A table of n rows of n numbers, of which the rows below k are made. -/
structure Mat (base : Nat) (w : World) (B n k : Nat) (bs : Nat → Nat) (f : Nat → Nat → Int) : Prop where
 hd : Box w B 22 (cellsF (hdF n) (fun i => if i < k then some (bs i) else none) n)
 row : ∀ i, i < k → Box w (bs i) 3 (cellsF intF (f i) n)
 low : base ≤ B
 rlow : ∀ i, i < k → B < bs i
 inj : ∀ i j, i < k → j < k → bs i = bs j → i = j
section
variable {base B n k : Nat} {w w' : World} {bs : Nat → Nat} {f : Nat → Nat → Int}
theorem Mat.below (h : Mat base w B n k bs f) (hb : Below w.heap.size w w') : Mat base w' B n k bs f := ⟨h.hd.below hb, fun i hi => (h.row i hi).below hb, h.low, h.rlow, h.inj⟩
theorem Mat.same (h : Mat base w B n k bs f) (hk : ∀ j, B ≤ j → j < w.heap.size → w'.heap[j]? = w.heap[j]?) : Mat base w' B n k bs f :=
 ⟨h.hd.same (hk B (Nat.le_refl _) h.hd.lt), fun i hi => (h.row i hi).same (hk _ (Nat.le_of_lt (h.rlow i hi)) (h.row i hi).lt), h.low, h.rlow, h.inj⟩
theorem Mat.new (h : Box w B 22 (Array.replicate n (.slice none 0 0))) (hl : base ≤ B) (bs : Nat → Nat) (f : Nat → Nat → Int) : Mat base w B n 0 bs f :=
 ⟨by rw [cellsF_congr (g := fun _ => none) (hdF n) (fun i _ => if_neg (Nat.not_lt_zero i)), cellsF_rep]; exact h, fun i hi => by omega, hl, fun i hi => by omega, fun i j hi => by omega⟩
theorem Mat.head (h : Mat base w B n k bs f) {i : Nat} (hi : i < k) (hn : i < n) : w.cell? ⟨B, i, none⟩ = some (.slice (some ⟨bs i, 0, none⟩) n n) := by
 rw [h.hd.cellF hn, if_pos hi]
 rfl
theorem Mat.get (h : Mat base w B n k bs f) {i j : Nat} (hi : i < k) (hj : j < n) : w.cell? ⟨bs i, j, none⟩ = some (.int .i64 (f i j)) := (h.row i hi).cellF hj
theorem Mat.put (h : Mat base w B n k bs f) {i : Nat} (hi : i < k) (j : Nat) (v : Int) : Mat base (w.setCell ⟨bs i, j, none⟩ (.int .i64 v)) B n k bs (updM f i j v) := by
 refine ⟨h.hd.setOther (by have := h.rlow i hi; show bs i ≠ B; omega) _, fun a ha => ?_, h.low, h.rlow, h.inj⟩
 by_cases e : a = i
 ·
  subst e
  have := (h.row a ha).setF (enc := intF) j v
  rw [cellsF_congr (g := updM f a j v a) intF (fun b _ => by unfold upd updM; by_cases hb : b = j <;> simp [hb])] at this
  exact this
 ·
  have h2 := (h.row a ha).setOther (p := ⟨bs i, j, none⟩) (fun e2 => e (h.inj a i ha hi e2.symm)) (.int .i64 v)
  rw [cellsF_congr (g := updM f i j v a) intF (fun b _ => by unfold updM; rw [if_neg (fun h => e h.1)])] at h2
  exact h2
/-- A row is made and told to the headers. -/
theorem Mat.make (h : Mat base w B n k bs f) (hk : k < n) {W : World} {b : Nat} (hb : Below w.heap.size w W) (hbw : w.heap.size ≤ b) (hx : Box W b 3 (Array.replicate n (.int .i64 0))) :
  Mat base (W.setCell ⟨B, k, none⟩ (.slice (some ⟨b, 0, none⟩) n n)) B n (k + 1) (upd bs k b) (upd f k (fun _ => 0)) := by
 have hB := h.hd.lt
 refine ⟨?_, fun i hi => ?_, h.low, fun i hi => ?_, fun i j hi hj e => ?_⟩
 ·
  have h1 := (h.hd.below hb).setF (enc := hdF n) k (some b)
  rw [cellsF_congr (g := fun i => if i < k + 1 then some (upd bs k b i) else none) (hdF n) (fun i _ => by
   unfold upd
   by_cases e : i = k
   ·
    subst e; simp
   ·
    by_cases e2 : i < k
    ·
     have : i < k + 1 := by omega
     simp [e, e2, this]
    ·
     have : ¬ i < k + 1 := by omega
     simp [e, e2, this])] at h1
  exact h1
 ·
  unfold upd
  by_cases e : i = k
  ·
   rw [if_pos e, if_pos e]
   have h1 := hx.setOther (p := ⟨B, k, none⟩) (by show B ≠ b; omega) (.slice (some ⟨b, 0, none⟩) n n)
   rw [show Array.replicate n (Value.int .i64 0) = cellsF intF (fun _ => 0) n from (cellsF_rep intF 0 n).symm] at h1
   exact h1
  ·
   rw [if_neg e, if_neg e]
   have hi' : i < k := by omega
   exact ((h.row i hi').below hb).setOther (p := ⟨B, k, none⟩) (by have := h.rlow i hi'; show B ≠ bs i; omega) _
 ·
  unfold upd
  by_cases e : i = k
  ·
   rw [if_pos e]; omega
  ·
   rw [if_neg e]; exact h.rlow i (by omega)
 ·
  unfold upd at e
  by_cases e1 : i = k
  ·
   by_cases e2 : j = k
   ·
    omega
   ·
    rw [if_pos e1, if_neg e2] at e
    have := (h.row j (by omega)).lt
    omega
  ·
   by_cases e2 : j = k
   ·
    rw [if_neg e1, if_pos e2] at e
    have := (h.row i (by omega)).lt
    omega
   ·
    rw [if_neg e1, if_neg e2] at e
    exact h.inj i j (by omega) (by omega) e
end
theorem run_make_len {P : Program} (t e : TypeId) (z : Value) (bts : Nat) (h1 : P.underlying t = some (.slice e)) (h2 : (P.info? e).map (fun i => (i.zero, i.size, i.bytes)) = some (some z, 1, bts)) (hz : z.cells = #[z])
  (n : Nat) (hn : bts * n ≤ 281474976710656) (hn2 : n ≤ 9223372036854775807) (w : World) :
  (Instr.makeSlice t (.int .i64 (n : Int)) (.int .i64 (n : Int))).run P w = .ok (.slice (some ⟨w.heap.size, 0, none⟩) n n) (w.alloc (.cells (Array.replicate n z) e)) := by
 obtain ⟨i, hi, he⟩ := Option.map_eq_some_iff.1 h2
 obtain ⟨e1, e2, e3⟩ : i.zero = some z ∧ i.size = 1 ∧ i.bytes = bts := by simpa using he
 have hb : (i.bytes : Int) * (n : Int) ≤ 281474976710656 := by
  have h : ((i.bytes * n : Nat) : Int) ≤ 281474976710656 := by rw [e3]; omega
  rwa [Int.natCast_mul] at h
 have hr := run_make (P := P) w t e i z h1 hi e1 .i64 .i64 n n (by omega) (by omega) hb (by omega)
 simp only [Int.toNat_natCast] at hr
 rw [hr, e2, Nat.mul_one, hz]
 have hm : madeCells #[z] n = Array.replicate n z := by rw [← Array.toList_inj, toList_madeCells_one, Array.toList_replicate]
 rw [hm]
end Go.Proofs.YtcjcdbhobehlpaaGreatDoor
