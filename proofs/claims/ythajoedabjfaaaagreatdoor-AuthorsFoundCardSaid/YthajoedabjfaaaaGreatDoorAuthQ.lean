/- Where words follow one another, what gives authors away. Plain. -/
import Derived.Test.YthajoedabjfaaaaGreatDoorAuthP
import Derived.Test.YthajoedabjfaaaaGreatDoorWord2
import Derived.Lib.IndexBytes
import Derived.Lib.IndexAny
namespace Go.Proofs.YthajoedabjfaaaaGreatDoor
open Go.RowKit
set_option linter.unusedVariables false
set_option linter.unusedSimpArgs false

abbrev Gv := Int × Int × Int × ByteArray
instance instCelGv : Cel Gv := ⟨4, fun t => [.int .i64 t.1, .int .i64 t.2.1, .int .i64 t.2.2.1, .string t.2.2.2], fun _ => rfl, by decide, by simp [Value.oneCell']⟩
theorem SA.giv {w : World} {a : Option Addr} {l : List Gv} (h : SA w a l) {i : Nat} (hi : i < l.length) :
    ∃ b off, a = some ⟨b, off, none⟩ ∧ w.cell? ⟨b, off + i * 4, none⟩ = some (.int .i64 l[i].1) ∧ w.cell? ⟨b, off + i * 4 + 1, none⟩ = some (.int .i64 l[i].2.1) ∧ w.cell? ⟨b, off + i * 4 + 2, none⟩ = some (.int .i64 l[i].2.2.1) ∧ w.cell? ⟨b, off + i * 4 + 3, none⟩ = some (.string l[i].2.2.2) := by
  obtain ⟨b, off, ha, hc⟩ := h.at hi
  exact ⟨b, off, ha, hc 0 (by decide), hc 1 (by decide), hc 2 (by decide), hc 3 (by decide)⟩
/-- Where the word number i begins, and ends. -/
def frA (s : ByteArray) (i : Nat) : Nat := ((spots s).getD i (0, 0)).1
def toA (s : ByteArray) (i : Nat) : Nat := ((spots s).getD i (0, 0)).2
theorem wordsS_length (s : ByteArray) : (wordsS s).length = (spots s).length := by unfold wordsS; rw [List.length_map]
theorem spot_at {s : ByteArray} {i : Nat} (h : i < (spots s).length) : (spots s)[i] = (frA s i, toA s i) := by
  unfold frA toA
  rw [List.getD_eq_getElem?_getD, List.getElem?_eq_getElem h]
  rfl
theorem spot_bd {s : ByteArray} {i : Nat} (h : i < (spots s).length) : frA s i < toA s i ∧ toA s i ≤ s.size := by
  have := spots_bd (List.getElem_mem h)
  rw [spot_at h] at this
  exact this
/-- The spots rise. -/
theorem scanW_rise (s : ByteArray) : ∀ i, (scanW s i).1.Pairwise (fun p q => p.2 < q.1) ∧ ∀ f, (scanW s i).2 = some f → ∀ p ∈ (scanW s i).1, p.2 < f
  | 0 => ⟨List.Pairwise.nil, fun f hf => (by cases hf)⟩
  | i + 1 => by
    obtain ⟨h2, h3⟩ := scanW_rise s i
    have hbd := (scanW_bd s i).2.1
    obtain ⟨⟨acc, fo⟩, he⟩ : ∃ r, scanW s i = r := ⟨_, rfl⟩
    rw [he] at h2 h3 hbd
    simp only at h2 h3 hbd
    cases hw : wAt s i <;> cases fo with
    | none =>
      first
        | rw [scanW_pass he hw]
        | rw [scanW_open he hw]
      refine ⟨h2, fun f hf => ?_⟩
      first
        | (cases hf; done)
        | (simp only [Option.some.injEq] at hf
           subst hf
           exact fun p hp => (hbd p hp).2)
    | some g =>
      have hg := h3 g rfl
      first
        | rw [scanW_close he hw]
        | rw [scanW_go he hw]
      refine ⟨?_, fun f hf => ?_⟩
      · first
          | exact h2
          | (rw [List.pairwise_append]
             refine ⟨h2, List.pairwise_singleton _ _, fun p hp q hq => ?_⟩
             rw [List.mem_singleton] at hq
             subst hq
             exact hg p hp)
      · first
          | (cases hf; done)
          | (simp only [Option.some.injEq] at hf
             subst hf
             exact hg)
theorem spots_rise {s : ByteArray} {i k : Nat} (h : i < k) (hk : k < (spots s).length) : toA s i < frA s k := by
  have h1 := List.pairwise_iff_getElem.1 (scanW_rise s (s.size + 1)).1 i k (by show i < (spots s).length; omega) hk h
  have e1 := spot_at (s := s) (i := i) (by omega)
  have e2 := spot_at hk
  unfold spots at e1 e2
  rw [e1, e2] at h1
  exact h1

/-- The words w stand from the number i on. -/
def fitAt (ws w : List ByteArray) (i : Nat) : Bool := decide ((ws.drop i).take w.length = w)
def findTo (s : ByteArray) (w : List ByteArray) (k : Nat) : List Spn := (List.range k).filterMap (fun i => if fitAt (wordsS s) w i = true then some ((frA s i : Int), (toA s (i + w.length - 1) : Int)) else none)
theorem findTo_zero (s : ByteArray) (w : List ByteArray) : findTo s w 0 = [] := rfl
theorem findTo_yes {s : ByteArray} {w : List ByteArray} {k : Nat} (h : fitAt (wordsS s) w k = true) : findTo s w (k + 1) = findTo s w k ++ [((frA s k : Int), (toA s (k + w.length - 1) : Int))] := by
  unfold findTo
  rw [List.range_succ, List.filterMap_append]
  simp [h]
theorem findTo_no {s : ByteArray} {w : List ByteArray} {k : Nat} (h : fitAt (wordsS s) w k = false) : findTo s w (k + 1) = findTo s w k := by
  unfold findTo
  rw [List.range_succ, List.filterMap_append]
  simp [h]
theorem findTo_len (s : ByteArray) (w : List ByteArray) (k : Nat) : (findTo s w k).length ≤ k := by
  unfold findTo
  have := List.length_filterMap_le (fun i => if fitAt (wordsS s) w i = true then some ((frA s i : Int), (toA s (i + w.length - 1) : Int)) else none) (List.range k)
  rw [List.length_range] at this
  exact this
def findS (s : ByteArray) (w : List ByteArray) : List Spn := findTo s w ((wordsS s).length + 1 - w.length)

/-- A line ends between two places. -/
def nlIn (s : ByteArray) (a b : Nat) : Bool := Lib.contains (s.extract a b).data.toList [10]
theorem nlIn_iff (s : ByteArray) (a b : Nat) : nlIn s a b = true ↔ ∃ j, ∃ h : j < s.data.toList.length, a ≤ j ∧ j < b ∧ s.data.toList[j] = 10 := by
  unfold nlIn Lib.contains
  rw [Lib.index_one, ← Lib.contains_iff_indexByte, List.contains_iff_mem, extract_list]
  constructor
  · intro h
    obtain ⟨j, hj, h1, h2, h3⟩ := mem_take_drop h
    exact ⟨j, hj, h1, h2, h3⟩
  · rintro ⟨j, hj, h1, h2, h3⟩
    rw [← h3]
    have hl : j - a < ((s.data.toList.take b).drop a).length := by rw [List.length_drop, List.length_take]; omega
    have e : ((s.data.toList.take b).drop a)[j - a] = s.data.toList[j] := by
      rw [List.getElem_drop, List.getElem_take]
      congr 1
      omega
    rw [← e]
    exact List.getElem_mem _
theorem nlIn_mono {s : ByteArray} {a b c : Nat} (h : nlIn s a b = true) (hb : b ≤ c) : nlIn s a c = true := by
  obtain ⟨j, hj, h1, h2, h3⟩ := (nlIn_iff _ _ _).1 h
  exact (nlIn_iff _ _ _).2 ⟨j, hj, h1, by omega, h3⟩
/-- No line ends within a word. -/
theorem nlIn_word {s : ByteArray} {i b : Nat} (hi : i < (spots s).length) : nlIn s (frA s i) b = nlIn s (toA s i) b := by
  rw [Bool.eq_iff_iff, nlIn_iff, nlIn_iff]
  constructor
  · rintro ⟨j, hj, h1, h2, h3⟩
    refine ⟨j, hj, ?_, h2, h3⟩
    apply Classical.byContradiction
    intro h4
    have h5 := spots_word (List.getElem_mem hi) (j := j) (by rw [spot_at hi]; exact h1) (by rw [spot_at hi]; show j < toA s i; omega)
    have hj' : j < s.size := by simpa using hj
    rw [wAt_in hj', getB hj', h3] at h5
    exact absurd h5 (by decide)
  · rintro ⟨j, hj, h1, h2, h3⟩
    have := spot_bd hi
    exact ⟨j, hj, by omega, h2, h3⟩
def isOur (w : ByteArray) : Bool := decide (w = ⟨#[111, 117, 114]⟩ ∨ w = ⟨#[109, 121]⟩ ∨ w = ⟨#[119, 101]⟩)
def isLate (w : ByteArray) : Bool := decide (w = ⟨#[112, 114, 101, 118, 105, 111, 117, 115]⟩ ∨ w = ⟨#[101, 97, 114, 108, 105, 101, 114]⟩ ∨ w = ⟨#[112, 114, 105, 111, 114]⟩ ∨ w = ⟨#[114, 101, 99, 101, 110, 116]⟩)
def wdA (s : ByteArray) (i : Nat) : ByteArray := (wordsS s).getD i ByteArray.empty
def hitA (s : ByteArray) (i k : Nat) : Bool := isOur (wdA s i) && (isLate (wdA s k) && !nlIn s (toA s i) (frA s k))
def rowTo (s : ByteArray) (i m : Nat) : List Spn := (List.range' (i + 1) m).filterMap (fun k => if hitA s i k = true then some ((frA s i : Int), (toA s k : Int)) else none)
theorem rowTo_zero (s : ByteArray) (i : Nat) : rowTo s i 0 = [] := rfl
theorem rowTo_yes {s : ByteArray} {i m : Nat} (h : hitA s i (i + 1 + m) = true) : rowTo s i (m + 1) = rowTo s i m ++ [((frA s i : Int), (toA s (i + 1 + m) : Int))] := by
  unfold rowTo
  rw [List.range'_1_concat, List.filterMap_append]
  simp [h]
theorem rowTo_no {s : ByteArray} {i m : Nat} (h : hitA s i (i + 1 + m) = false) : rowTo s i (m + 1) = rowTo s i m := by
  unfold rowTo
  rw [List.range'_1_concat, List.filterMap_append]
  simp [h]
theorem rowTo_rest {s : ByteArray} {i m n : Nat} (hm : m ≤ n) (h : ∀ q, m ≤ q → q < n → hitA s i (i + 1 + q) = false) : rowTo s i n = rowTo s i m := by
  induction n with
  | zero => obtain rfl : m = 0 := by omega
            rfl
  | succ n ih =>
    by_cases e : m = n + 1
    · rw [e]
    · rw [rowTo_no (h n (by omega) (by omega)), ih (by omega) (fun q h1 h2 => h q h1 (by omega))]
theorem rowTo_len (s : ByteArray) (i m : Nat) : (rowTo s i m).length ≤ m := by
  unfold rowTo
  have := List.length_filterMap_le (fun k => if hitA s i k = true then some ((frA s i : Int), (toA s k : Int)) else none) (List.range' (i + 1) m)
  rw [List.length_range'] at this
  exact this
/-- How many words behind the word i are looked at. -/
def reach (s : ByteArray) (i : Nat) : Nat := min (wordsS s).length (i + 7) - (i + 1)
theorem reach_le (s : ByteArray) (i : Nat) : reach s i ≤ 6 := by unfold reach; omega
def oursTo (s : ByteArray) (n : Nat) : List Spn := (List.range n).flatMap (fun i => rowTo s i (reach s i))
theorem oursTo_succ (s : ByteArray) (n : Nat) : oursTo s (n + 1) = oursTo s n ++ rowTo s n (reach s n) := by
  unfold oursTo
  rw [List.range_succ, List.flatMap_append]
  simp
theorem oursTo_len (s : ByteArray) : ∀ n, (oursTo s n).length ≤ 6 * n
  | 0 => Nat.le_refl _
  | n + 1 => by
    rw [oursTo_succ, List.length_append]
    have := oursTo_len s n
    have := rowTo_len s n (reach s n)
    have := reach_le s n
    omega
def oursS (s : ByteArray) : List Spn := oursTo s (wordsS s).length
theorem not_our {s : ByteArray} {i : Nat} (h : isOur (wdA s i) = false) (m : Nat) : rowTo s i m = [] := by
  rw [rowTo_rest (m := 0) (Nat.zero_le _) (fun q _ _ => by unfold hitA; rw [h]; rfl)]
  rfl

def addAll (k : Int) (who : ByteArray) (l : List Spn) : List Gv := l.map (fun p => (k, p.1, p.2, who))
/-- What one name gives away. -/
def nameG (t s : ByteArray) : List Gv := addAll 1 s (findS t (wordsS s)) ++ if 1 < (wordsS s).length ∧ wordsS s ≠ initL (wordsS s) then addAll 2 s (findS t (initL (wordsS s))) else []
def homeG (t s : ByteArray) : List Gv := addAll 3 s (findS t (wordsS s))
def namesG (t : ByteArray) (l : List ByteArray) : List Gv := l.flatMap (nameG t)
def homesG (t : ByteArray) (l : List ByteArray) : List Gv := l.flatMap (homeG t)
def allG (t : ByteArray) (names homes : List ByteArray) : List Gv := namesG t names ++ homesG t homes ++ addAll 4 ⟨#[]⟩ (oursS t)
theorem addAll_len (k : Int) (who : ByteArray) (l : List Spn) : (addAll k who l).length = l.length := List.length_map ..
theorem findS_len (s : ByteArray) (w : List ByteArray) : (findS s w).length ≤ s.size + 2 := by
  have h1 := findTo_len s w ((wordsS s).length + 1 - w.length)
  have h2 := spots_len s
  rw [← wordsS_length] at h2
  unfold findS
  omega
theorem nameG_len (t s : ByteArray) : (nameG t s).length ≤ 2 * (t.size + 2) := by
  unfold nameG
  rw [List.length_append, addAll_len]
  have h1 := findS_len t (wordsS s)
  split
  · rw [addAll_len]
    have h2 := findS_len t (initL (wordsS s))
    omega
  · simp; omega
theorem homeG_len (t s : ByteArray) : (homeG t s).length ≤ t.size + 2 := by
  unfold homeG
  rw [addAll_len]
  exact findS_len t _
theorem flat_len {α β : Type} (f : α → List β) (M : Nat) (h : ∀ x, (f x).length ≤ M) : ∀ l : List α, (l.flatMap f).length ≤ l.length * M
  | [] => by simp
  | x :: l => by
    rw [List.flatMap_cons, List.length_append, List.length_cons, Nat.succ_mul]
    have := h x
    have := flat_len f M h l
    omega
theorem flat_snoc {α β : Type} (f : α → List β) {l : List α} {k : Nat} (hk : k < l.length) : (l.take (k + 1)).flatMap f = (l.take k).flatMap f ++ f l[k] := by
  rw [List.take_succ_eq_append_getElem hk, List.flatMap_append]
  simp
end Go.Proofs.YthajoedabjfaaaaGreatDoor
