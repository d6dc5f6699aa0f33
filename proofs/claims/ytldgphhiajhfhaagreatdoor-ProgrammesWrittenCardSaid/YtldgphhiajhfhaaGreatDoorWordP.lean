/- Words of strings: small letters, runs of bytes of words. Plain. -/
import Derived.Test.YtldgphhiajhfhaaGreatDoorArr
import Derived.Lib.ConvBytes
import Derived.Laws.IdiomStrings
namespace Go.Proofs.YtldgphhiajhfhaaGreatDoor
open Go.RowKit
set_option linter.unusedVariables false
set_option linter.unusedSimpArgs false

/-- A byte of words. -/
def wordC (n : Nat) : Bool := decide (97 ≤ n ∧ n ≤ 122 ∨ 65 ≤ n ∧ n ≤ 90 ∨ 48 ≤ n ∧ n ≤ 57 ∨ 128 ≤ n)
/-- A small letter for a capital one. -/
def lowU (c : UInt8) : UInt8 := if 65 ≤ c.toNat ∧ c.toNat ≤ 90 then c + 32 else c
theorem lowU_yes {c : UInt8} (h1 : 65 ≤ c.toNat) (h2 : c.toNat ≤ 90) : (lowU c).toNat = c.toNat + 32 := by
  unfold lowU; rw [if_pos ⟨h1, h2⟩, UInt8.toNat_add]
  have : (32 : UInt8).toNat = 32 := rfl
  rw [this, Nat.mod_eq_of_lt (by omega)]
theorem lowU_no {c : UInt8} (h : ¬ (65 ≤ c.toNat ∧ c.toNat ≤ 90)) : lowU c = c := by unfold lowU; rw [if_neg h]
def lowS (s : ByteArray) : ByteArray := ⟨(s.data.toList.map lowU).toArray⟩
def lowTo (l : List UInt8) (k : Nat) : List UInt8 := (l.take k).map lowU ++ l.drop k
theorem lowTo_zero (l : List UInt8) : lowTo l 0 = l := by simp [lowTo]
theorem lowTo_all (l : List UInt8) : lowTo l l.length = l.map lowU := by simp [lowTo]
theorem lowTo_length (l : List UInt8) (k : Nat) : (lowTo l k).length = l.length := by
  unfold lowTo; rw [List.length_append, List.length_map, List.length_take, List.length_drop]; omega
theorem lowTo_get {l : List UInt8} {k : Nat} (hk : k ≤ l.length) (j : Nat) : (lowTo l k)[j]? = if j < k then l[j]?.map lowU else l[j]? := by
  unfold lowTo
  by_cases hj : j < k
  · rw [if_pos hj, List.getElem?_append_left (by rw [List.length_map, List.length_take]; omega), List.getElem?_map, List.getElem?_take_of_lt hj]
  · rw [if_neg hj, List.getElem?_append_right (by rw [List.length_map, List.length_take]; omega), List.length_map, List.length_take, List.getElem?_drop]
    congr 1
    omega
theorem lowTo_at {l : List UInt8} {k : Nat} (h : k < l.length) (h' : k < (lowTo l k).length) : (lowTo l k)[k] = l[k] := by
  have e := lowTo_get (l := l) (k := k) (by omega) k
  rw [if_neg (by omega), List.getElem?_eq_getElem h', List.getElem?_eq_getElem h] at e
  exact Option.some.inj e
theorem lowTo_succ {l : List UInt8} {k : Nat} (h : k < l.length) : lowTo l (k + 1) = (lowTo l k).set k (lowU l[k]) := by
  apply List.ext_getElem?
  intro j
  rw [List.getElem?_set, lowTo_get (by omega), lowTo_get (by omega), lowTo_length]
  by_cases hj : k = j
  · subst hj
    rw [if_pos (by omega), if_pos rfl, if_pos h, List.getElem?_eq_getElem h]; rfl
  · rw [if_neg hj]
    by_cases hlt : j < k
    · rw [if_pos (by omega), if_pos hlt]
    · rw [if_neg (by omega), if_neg hlt]
theorem lowTo_keep {l : List UInt8} {k : Nat} (h : k < l.length) (hn : ¬ (65 ≤ l[k].toNat ∧ l[k].toNat ≤ 90)) : lowTo l (k + 1) = lowTo l k := by
  have h' : k < (lowTo l k).length := by rw [lowTo_length]; exact h
  rw [lowTo_succ h, lowU_no hn, ← lowTo_at h h']
  exact List.set_getElem_self h'

/-- Whether a byte of words stands somewhere. -/
def wAt (s : ByteArray) (i : Nat) : Bool := if h : i < s.size then wordC s[i].toNat else false
theorem wAt_in {s : ByteArray} {i : Nat} (h : i < s.size) : wAt s i = wordC s[i].toNat := by unfold wAt; rw [dif_pos h]
theorem wAt_out {s : ByteArray} {i : Nat} (h : ¬ i < s.size) : wAt s i = false := by unfold wAt; rw [dif_neg h]
def scanW (s : ByteArray) : Nat → List (Nat × Nat) × Option Nat
  | 0 => ([], none)
  | i + 1 => match scanW s i with
    | (acc, none) => if wAt s i = true then (acc, some i) else (acc, none)
    | (acc, some f) => if wAt s i = true then (acc, some f) else (acc ++ [(f, i)], none)
theorem scanW_open {s : ByteArray} {i : Nat} {acc : List (Nat × Nat)} (h : scanW s i = (acc, none)) (hw : wAt s i = true) : scanW s (i + 1) = (acc, some i) := by
  show (match scanW s i with | (acc, none) => if wAt s i = true then (acc, some i) else (acc, none) | (acc, some f) => if wAt s i = true then (acc, some f) else (acc ++ [(f, i)], none)) = _
  rw [h]; simp only [hw, if_true]
theorem scanW_pass {s : ByteArray} {i : Nat} {acc : List (Nat × Nat)} (h : scanW s i = (acc, none)) (hw : wAt s i = false) : scanW s (i + 1) = (acc, none) := by
  show (match scanW s i with | (acc, none) => if wAt s i = true then (acc, some i) else (acc, none) | (acc, some f) => if wAt s i = true then (acc, some f) else (acc ++ [(f, i)], none)) = _
  rw [h]; simp [hw]
theorem scanW_go {s : ByteArray} {i f : Nat} {acc : List (Nat × Nat)} (h : scanW s i = (acc, some f)) (hw : wAt s i = true) : scanW s (i + 1) = (acc, some f) := by
  show (match scanW s i with | (acc, none) => if wAt s i = true then (acc, some i) else (acc, none) | (acc, some f) => if wAt s i = true then (acc, some f) else (acc ++ [(f, i)], none)) = _
  rw [h]; simp [hw]
theorem scanW_close {s : ByteArray} {i f : Nat} {acc : List (Nat × Nat)} (h : scanW s i = (acc, some f)) (hw : wAt s i = false) : scanW s (i + 1) = (acc ++ [(f, i)], none) := by
  show (match scanW s i with | (acc, none) => if wAt s i = true then (acc, some i) else (acc, none) | (acc, some f) => if wAt s i = true then (acc, some f) else (acc ++ [(f, i)], none)) = _
  rw [h]; simp [hw]
theorem scanW_bd (s : ByteArray) : ∀ i, (scanW s i).1.length ≤ i ∧ (∀ p ∈ (scanW s i).1, p.1 < p.2 ∧ p.2 < i) ∧ ∀ f, (scanW s i).2 = some f → f < i
  | 0 => ⟨Nat.le_refl _, fun p hp => (by cases hp), fun f hf => (by cases hf)⟩
  | i + 1 => by
    obtain ⟨h1, h2, h3⟩ := scanW_bd s i
    obtain ⟨⟨acc, fo⟩, he⟩ : ∃ r, scanW s i = r := ⟨_, rfl⟩
    rw [he] at h1 h2 h3
    simp only at h1 h2 h3
    cases hw : wAt s i <;> cases fo with
    | none =>
      first
        | rw [scanW_pass he hw]
        | rw [scanW_open he hw]
      refine ⟨by simp only; omega, fun p hp => by have := h2 p hp; omega, fun f hf => by first | (cases hf; done) | (simp only [Option.some.injEq] at hf; omega)⟩
    | some g =>
      have hg := h3 g rfl
      first
        | rw [scanW_close he hw]
        | rw [scanW_go he hw]
      refine ⟨by simp only [List.length_append, List.length_singleton]; omega, fun p hp => ?_, fun f hf => by first | (cases hf; done) | (simp only [Option.some.injEq] at hf; omega)⟩
      first
        | (have := h2 p hp; omega)
        | (rcases List.mem_append.1 hp with hp | hp
           · have := h2 p hp; omega
           · rw [List.mem_singleton] at hp; subst hp; simp only; omega)
/-- The longest runs of bytes of words. -/
def spots (s : ByteArray) : List (Nat × Nat) := (scanW s (s.size + 1)).1
theorem spots_bd {s : ByteArray} {p : Nat × Nat} (h : p ∈ spots s) : p.1 < p.2 ∧ p.2 ≤ s.size := by
  have := (scanW_bd s (s.size + 1)).2.1 p h
  omega
theorem spots_len (s : ByteArray) : (spots s).length ≤ s.size + 1 := (scanW_bd s (s.size + 1)).1
/-- A run that is open stays so while there are bytes of words. -/
theorem scanW_run {s : ByteArray} {i : Nat} {acc : List (Nat × Nat)} (h : scanW s i = (acc, none)) : ∀ k, i < k → (∀ j, i ≤ j → j < k → wAt s j = true) → scanW s k = (acc, some i)
  | 0, hk, _ => by omega
  | k + 1, hk, hw => by
    by_cases he : k = i
    · subst he; exact scanW_open h (hw _ (Nat.le_refl _) (Nat.lt_succ_self _))
    · exact scanW_go (scanW_run h k (by omega) (fun j h1 h2 => hw j h1 (by omega))) (hw k (by omega) (Nat.lt_succ_self _))
/-- A word, and where it stands. -/
def wordT (s : ByteArray) (p : Nat × Nat) : ByteArray × Int × Int := (lowS (s.extract p.1 p.2), (p.1 : Int), (p.2 : Int))
def wordsT (s : ByteArray) : List (ByteArray × Int × Int) := (spots s).map (wordT s)
def wordsS (s : ByteArray) : List ByteArray := (spots s).map (fun p => lowS (s.extract p.1 p.2))
theorem wordsS_of (s : ByteArray) : (wordsT s).map (·.1) = wordsS s := by unfold wordsT wordsS; rw [List.map_map]; rfl

/-- A row of bytes that can be written. -/
def Raw (w : World) (b : Nat) (l : List UInt8) : Prop := ∃ cs T n m, w.heap[b]? = some (.cells cs T (n, m)) ∧ l.length ≤ n ∧ ∀ j, (h : j < l.length) → cs[j]? = some (.int .u8 (l[j].toNat : Int))
theorem Raw.lt {w : World} {b : Nat} {l : List UInt8} (h : Raw w b l) : b < w.heap.size := by
  obtain ⟨cs, T, n, m, h1, _⟩ := h
  exact (Array.getElem?_eq_some_iff.1 h1).1
theorem Raw.cell {w : World} {b : Nat} {l : List UInt8} (h : Raw w b l) {j : Nat} (hj : j < l.length) : w.cell? ⟨b, j, none⟩ = some (.int .u8 (l[j].toNat : Int)) := by
  obtain ⟨cs, T, n, m, h1, h2, h3⟩ := h
  simp [World.cell?, h1, h3 j hj]
theorem Raw.frozen {w : World} {b : Nat} {l : List UInt8} (h : Raw w b l) {j : Nat} (hj : j < l.length) : w.frozen? ⟨b, j, none⟩ = false := by
  obtain ⟨cs, T, n, m, h1, h2, h3⟩ := h
  simp only [World.frozen?, h1]
  have : ¬ n ≤ j := by omega
  simp [this]
theorem Raw.set {w : World} {b : Nat} {l : List UInt8} (h : Raw w b l) (j : Nat) (c : UInt8) : Raw (w.setCell ⟨b, j, none⟩ (.int .u8 (c.toNat : Int))) b (l.set j c) := by
  obtain ⟨cs, T, n, m, h1, h2, h3⟩ := h
  refine ⟨cs.setIfInBounds j (.int .u8 (c.toNat : Int)), T, n, m, ?_, by rw [List.length_set]; exact h2, ?_⟩
  · simp [World.setCell, Array.getElem?_modify, h1]
  · intro k hk
    rw [List.length_set] at hk
    rw [List.getElem_set, Array.getElem?_setIfInBounds]
    have hk2 : k < cs.size := (Array.getElem?_eq_some_iff.1 (h3 k hk)).1
    by_cases e : j = k
    · subst e; rw [if_pos rfl, if_pos rfl, if_pos hk2]
    · rw [if_neg e, if_neg e]; exact h3 k hk
theorem Raw.bytes (w : World) (T : TypeId) (s : ByteArray) : Raw (Lib.bytesWorld w T s) w.heap.size s.data.toList := by
  refine ⟨_, _, _, _, Lib.bytesWorld_at_new w T s, ?_, ?_⟩
  · unfold Lib.bytesCells; simp
  · intro j hj
    have hj' : j < s.data.size := by simpa using hj
    unfold Lib.bytesCells
    rw [Array.getElem?_append_left (by simpa using hj')]
    simp
    exact ⟨s.data[j], Array.getElem?_eq_getElem hj', rfl⟩
theorem bytesWorld_below (w : World) (T : TypeId) (s : ByteArray) : Below w.heap.size w (Lib.bytesWorld w T s) := ⟨rfl, rfl, rfl, by rw [Lib.bytesWorld_size]; omega, fun k hk => Lib.bytesWorld_at_old w _ s k hk⟩
theorem Raw.string {P : Program} {w : World} {b : Nat} {l : List UInt8} (h : Raw w b l) (src dst e : TypeId) (cap : Nat) (hs : P.underlying src = some (.slice e)) (he : P.underlying e = some (.int .u8)) (hd : P.underlying dst = some .string) :
    (convert src dst (.slice (some ⟨b, 0, none⟩) l.length cap)).run P w = .ok (.string ⟨l.toArray⟩) w :=
  run_convert_bytes_back w src dst e ⟨b, 0, none⟩ cap l hs he hd fun j hj => by
    rw [show (Addr.add ⟨b, 0, none⟩ j : Addr) = ⟨b, j, none⟩ from by unfold Addr.add; split <;> simp_all]
    exact h.cell hj
end Go.Proofs.YtldgphhiajhfhaaGreatDoor
