/- Lines and pieces of strings. Plain. -/
import Derived.Test.YtldgphhiajhfhaaGreatDoorWordP
import Derived.Lib.Split
import Derived.Lib.SplitLaws
import Derived.Lib.IndexBytes
import Derived.Lib.TrimByte
import Derived.Lib.Join
namespace Go.Proofs.YtldgphhiajhfhaaGreatDoor
open Go.RowKit
set_option linter.unusedVariables false
set_option linter.unusedSimpArgs false

/-- The pieces between the bytes c. -/
def cutL (c : UInt8) : List UInt8 → List (List UInt8)
 | [] => [[]]
 | x :: r => if x = c then [] :: cutL c r else match cutL c r with
  | [] => [[x]]
  | p :: t => (x :: p) :: t
theorem split_cut (c : UInt8) : ∀ l : List UInt8, Lib.split l [c] = cutL c l
 | [] => by
  unfold Lib.split
  rw [Lib.count_miss (by rw [Lib.index_one]; rfl)]
  rfl
 | x :: r => by
  have ih := split_cut c r
  by_cases h : x = c
  ·
   subst h
   unfold cutL
   rw [if_pos rfl, ← ih]
   unfold Lib.split
   have hi : Lib.index (x :: r) [x] = 0 := by rw [Lib.index_one]; simp [Lib.indexByte]
   rw [Lib.count_cons_eq, Nat.add_comm 1, Lib.splitK, if_neg (by rw [hi]; decide), hi]
   simp
  ·
   have hc := Lib.count_cons_ne x c r h
   unfold cutL
   rw [if_neg h, ← ih]
   unfold Lib.split
   rw [hc]
   cases hk : Lib.count r [c] with
   | zero => simp [Lib.splitK]
   | succ k =>
    have hm : ¬ Lib.index r [c] = -1 := fun e => by rw [Lib.count_miss e] at hk; cases hk
    have hge := Lib.index_ge r [c]
    have hr1 : Lib.index (x :: r) [c] = Lib.index r [c] + 1 := by
     conv => lhs; unfold Lib.index
     have hp : ([c] : List UInt8).isPrefixOf (x :: r) = false := by simp [List.isPrefixOf]; exact fun e => absurd e.symm h
     rw [hp, if_neg (by decide), if_neg (by simpa using hm)]
    rw [Lib.splitK, Lib.splitK, if_neg (show ¬ (Lib.index (x :: r) [c] == -1) = true by rw [hr1]; simp; omega), if_neg (show ¬ (Lib.index r [c] == -1) = true by simpa using hm), hr1]
    obtain ⟨i, hi⟩ : ∃ i : Nat, Lib.index r [c] = i := ⟨(Lib.index r [c]).toNat, by omega⟩
    rw [hi]
    have e1 : ((i : Int) + 1).toNat = i + 1 := by omega
    have e2 : ((i : Int)).toNat = i := by omega
    rw [e1, e2]
    simp
def cutB (c : UInt8) (s : ByteArray) : List ByteArray := (cutL c s.data.toList).map (fun l => ⟨l.toArray⟩)
theorem map_data (l : List ByteArray) : (l.map (·.data.toList)).map (fun x => (⟨x.toArray⟩ : ByteArray)) = l := by
 rw [List.map_map]
 conv => rhs; rw [← List.map_id l]
 apply List.map_congr_left
 intro a _
 simp
theorem splitB_cut (c : UInt8) (s : ByteArray) : Lib.splitB ⟨#[c]⟩ 0 (Lib.countB s ⟨#[c]⟩) s = cutB c s := by
 unfold cutB
 rw [← split_cut c, ← map_data (Lib.splitB ⟨#[c]⟩ 0 (Lib.countB s ⟨#[c]⟩) s), Lib.splitB_data]
 rfl
theorem cutL_ne (c : UInt8) : ∀ l : List UInt8, cutL c l ≠ []
 | [] => by unfold cutL; simp
 | x :: r => by
  unfold cutL
  split
  ·
   simp
  ·
   cases cutL c r <;> simp
theorem cutL_length (c : UInt8) : ∀ l : List UInt8, (cutL c l).length ≤ l.length + 1
 | [] => by simp [cutL]
 | x :: r => by
  have ih := cutL_length c r
  unfold cutL
  split
  ·
   simp only [List.length_cons]; omega
  ·
   cases h : cutL c r with
   | nil => simp
   | cons p t => rw [h] at ih; simp only [List.length_cons] at *; omega
theorem cutL_sizes (c : UInt8) : ∀ l : List UInt8, ∀ p ∈ cutL c l, p.length ≤ l.length
 | [] => by simp [cutL]
 | x :: r => by
  have ih := cutL_sizes c r
  unfold cutL
  intro p hp
  split at hp
  ·
   rcases List.mem_cons.1 hp with rfl | hp
   ·
    simp
   ·
    have := ih p hp; simp only [List.length_cons]; omega
  ·
   cases h : cutL c r with
   | nil => rw [h] at hp; simp at hp; subst hp; simp
   | cons q t =>
    rw [h] at hp ih
    rcases List.mem_cons.1 hp with rfl | hp
    ·
     have := ih q (List.mem_cons_self ..); simp only [List.length_cons]; omega
    ·
     have := ih p (List.mem_cons_of_mem _ hp); simp only [List.length_cons]; omega
/-- What stands behind the last c of a list that ends in c. -/
theorem cutL_last (c : UInt8) : ∀ l : List UInt8, (l = [] ∨ l.getLast? = some c) → (cutL c l).getLast? = some []
 | [], _ => by simp [cutL]
 | x :: r, h => by
  have hr : r = [] ∨ r.getLast? = some c := by
   cases r with
   | nil => exact .inl rfl
   | cons y t => right; rcases h with h | h; cases h; rwa [List.getLast?_cons_cons] at h
  have ih := cutL_last c r hr
  unfold cutL
  by_cases hx : x = c
  ·
   rw [if_pos hx]
   cases hc : cutL c r with
   | nil => exact absurd hc (cutL_ne c r)
   | cons p t => rw [hc] at ih; rw [List.getLast?_cons_cons]; exact ih
  ·
   rw [if_neg hx]
   cases r with
   | nil => rcases h with h | h; cases h; simp at h; exact absurd h hx
   | cons y u =>
    have hl : (y :: u).getLast? = some c := by rcases hr with h1 | h1; cases h1; exact h1
    cases hc : cutL c (y :: u) with
    | nil => exact absurd hc (cutL_ne c _)
    | cons p t =>
     rw [hc] at ih
     cases t with
     | nil =>
      exfalso
      simp at ih
      subst ih
      have : ∀ l : List UInt8, cutL c l = [[]] → l = [] := by
       intro l hl
       cases l with
       | nil => rfl
       | cons a b =>
        unfold cutL at hl
        split at hl
        ·
         exfalso; simp at hl; exact cutL_ne c b hl
        ·
         cases hb : cutL c b with
         | nil => rw [hb] at hl; simp at hl
         | cons p t => rw [hb] at hl; simp at hl
      have := this _ hc
      cases this
     | cons q v => simp only; rw [List.getLast?_cons_cons] at ih ⊢; exact ih
theorem cutL_blank (c : UInt8) : ∀ l : List UInt8, (cutL c l).all (·.isEmpty) = l.all (· == c)
 | [] => by simp [cutL]
 | x :: r => by
  have ih := cutL_blank c r
  unfold cutL
  by_cases hx : x = c
  ·
   subst hx; rw [if_pos rfl]; simp [ih]
  ·
   rw [if_neg hx]
   have : (x == c) = false := by simpa using hx
   cases hc : cutL c r with
   | nil => exact absurd hc (cutL_ne c r)
   | cons p t => simp [this]
theorem dropAll_nil {c : UInt8} : ∀ l : List UInt8, (l.dropWhile (· == c)).isEmpty = l.all (· == c)
 | [] => rfl
 | x :: r => by
  rw [List.dropWhile_cons, List.all_cons]
  cases h : x == c
  ·
   simp
  ·
   simpa using dropAll_nil r
theorem dropAll_all {c : UInt8} : ∀ l : List UInt8, (l.dropWhile (· == c)).all (· == c) = true → l.dropWhile (· == c) = []
 | [], _ => rfl
 | x :: r, h => by
  rw [List.dropWhile_cons] at h ⊢
  cases hx : x == c
  ·
   rw [hx] at h; simp [hx] at h
  ·
   rw [hx] at h; simp only [if_true] at h ⊢; exact dropAll_all r h
/-- A line of blanks. -/
def blankL (c : UInt8) (l : List UInt8) : Bool := l.all (· == c)
theorem trimB_blank (c : UInt8) (l : List UInt8) : (Lib.trimB l c).isEmpty = blankL c l := by
 unfold Lib.trimB Lib.trimLeftB blankL
 rw [dropAll_nil]
 unfold Lib.trimRightB
 rw [List.all_reverse]
 cases h : l.all (· == c)
 ·
  cases h2 : (l.reverse.dropWhile (· == c)).all (· == c)
  ·
   rfl
  ·
   exfalso
   have h3 := dropAll_all _ h2
   have h4 := dropAll_nil (c := c) l.reverse
   rw [h3, List.all_reverse, h] at h4
   cases h4
 ·
  have h4 := dropAll_nil (c := c) l.reverse
  rw [List.all_reverse, h] at h4
  rw [List.isEmpty_iff.1 h4]
  rfl
theorem join_nil {xs : List (List UInt8)} (h : ∀ x ∈ xs, x ≠ []) (sep : List UInt8) : Lib.join xs sep = [] ↔ xs = [] := by
 unfold Lib.join
 constructor
 ·
  intro e
  cases xs with
  | nil => rfl
  | cons x r =>
   exfalso
   have hx := h x (List.mem_cons_self ..)
   cases r with
   | nil => simp [List.intercalate] at e; exact hx e
   | cons y t => simp [List.intercalate, List.intersperse] at e; exact hx e.1
 ·
  rintro rfl; rfl
/-- What is left of a line, squeezed. -/
def squeezeL (l : List UInt8) : List (List UInt8) := (cutL 32 l).filter (fun p => !p.isEmpty)
theorem squeeze_blank (l : List UInt8) : (Lib.join (squeezeL l) [32]).isEmpty = blankL 32 l := by
 have hne : ∀ x ∈ squeezeL l, x ≠ [] := fun x hx e => by
  unfold squeezeL at hx
  rw [List.mem_filter] at hx
  rw [e] at hx
  simp at hx
 have h := cutL_blank 32 l
 rw [Bool.eq_iff_iff, List.isEmpty_iff, join_nil hne]
 unfold blankL
 rw [← h]
 unfold squeezeL
 rw [List.filter_eq_nil_iff, List.all_eq_true]
 simp
/-- The level of a line that begins a section, and its title; 0: it begins none. -/
def headE (l : List UInt8) : Nat × List UInt8 :=
 if (l.takeWhile (· == 35)).length < 1 ∨ 4 < (l.takeWhile (· == 35)).length ∨ (l.dropWhile (· == 35)).head? ≠ some 32 ∨ blankL 32 (l.dropWhile (· == 35)) = true then (0, [])
 else ((l.takeWhile (· == 35)).length, Lib.trimB (l.dropWhile (· == 35)) 32)
abbrev Sect := Int × ByteArray × Int
instance : Cel Sect := ⟨3, fun t => [.int .i64 t.1, .string t.2.1, .int .i64 t.2.2], fun _ => rfl, by decide, by simp [Value.oneCell']⟩
theorem SA.sect {w : World} {a : Option Addr} {l : List Sect} (h : SA w a l) {i : Nat} (hi : i < l.length) :
  ∃ b off, a = some ⟨b, off, none⟩ ∧ w.cell? ⟨b, off + i * 3, none⟩ = some (.int .i64 l[i].1) ∧ w.cell? ⟨b, off + i * 3 + 1, none⟩ = some (.string l[i].2.1) ∧ w.cell? ⟨b, off + i * 3 + 2, none⟩ = some (.int .i64 l[i].2.2) := by
 obtain ⟨b, off, ha, hc⟩ := h.at hi
 exact ⟨b, off, ha, hc 0 (by decide), hc 1 (by decide), hc 2 (by decide)⟩
/-- So many words more in the last section. -/
def bumpL : List Sect → Int → List Sect
 | [], _ => []
 | [x], n => [(x.1, x.2.1, x.2.2 + n)]
 | x :: y :: r, n => x :: bumpL (y :: r) n
theorem bumpL_zero : ∀ l : List Sect, bumpL l 0 = l
 | [] => rfl
 | [x] => by simp [bumpL]
 | x :: y :: r => by rw [bumpL, bumpL_zero (y :: r)]
theorem bumpL_length : ∀ (l : List Sect) (n : Int), (bumpL l n).length = l.length
 | [], _ => rfl
 | [x], _ => rfl
 | x :: y :: r, n => by rw [bumpL, List.length_cons, bumpL_length (y :: r) n]; rfl
theorem bumpL_snoc : ∀ (l : List Sect) (x : Sect) (n : Int), bumpL (l ++ [x]) n = l ++ [(x.1, x.2.1, x.2.2 + n)]
 | [], _, _ => rfl
 | [y], x, n => rfl
 | y :: z :: r, x, n => by
  have ih := bumpL_snoc (z :: r) x n
  show y :: bumpL (z :: (r ++ [x])) n = _
  rw [show (z :: (r ++ [x])) = (z :: r) ++ [x] from rfl, ih]; rfl
def secS (acc : List Sect) (s : ByteArray) : List Sect :=
 if 0 < (headE s.data.toList).1 then acc ++ [(((headE s.data.toList).1 : Int), ⟨(headE s.data.toList).2.toArray⟩, 0)] else bumpL acc (spots s).length
def secsL (l : List ByteArray) : List Sect := l.foldl secS []
theorem secsL_snoc (l : List ByteArray) (s : ByteArray) : secsL (l ++ [s]) = secS (secsL l) s := by unfold secsL; rw [List.foldl_append]; rfl
theorem secS_length (acc : List Sect) (s : ByteArray) : (secS acc s).length ≤ acc.length + 1 := by
 unfold secS; split
 ·
  simp
 ·
  rw [bumpL_length]; omega
theorem secsL_length (l : List ByteArray) : (secsL l).length ≤ l.length := by
 have : ∀ (l : List ByteArray) (acc : List Sect), (l.foldl secS acc).length ≤ acc.length + l.length := by
  intro l
  induction l with
  | nil => intro acc; simp
  | cons x r ih => intro acc; rw [List.foldl_cons]; have := ih (secS acc x); have := secS_length acc x; simp only [List.length_cons]; omega
 have := this l []
 unfold secsL
 simpa using this
/-- What is said of sections' numbers. -/
def SecOk (N : Int) (x : Sect) : Prop := 1 ≤ x.1 ∧ x.1 ≤ 4 ∧ 0 ≤ x.2.2 ∧ x.2.2 ≤ N
theorem bumpL_ok {N M n : Int} (h0 : 0 ≤ n) (hn : N + n ≤ M) : ∀ l : List Sect, (∀ x ∈ l, SecOk N x) → ∀ x ∈ bumpL l n, SecOk M x
 | [], _, x, hx => by cases hx
 | [y], h, x, hx => by
  obtain ⟨a, b, c, d⟩ := h y (List.mem_cons_self ..)
  rw [bumpL, List.mem_singleton] at hx
  subst hx
  exact ⟨a, b, by show 0 ≤ y.2.2 + n; omega, by show y.2.2 + n ≤ M; omega⟩
 | y :: z :: r, h, x, hx => by
  rw [bumpL] at hx
  rcases List.mem_cons.1 hx with rfl | hx
  ·
   obtain ⟨a, b, c, d⟩ := h x (List.mem_cons_self ..)
   exact ⟨a, b, c, by omega⟩
  ·
   exact bumpL_ok h0 hn (z :: r) (fun x hx => h x (List.mem_cons_of_mem _ hx)) x hx
theorem headE_bd (l : List UInt8) : (headE l).1 ≤ 4 := by
 unfold headE; split
 ·
  simp
 ·
  next h => simp only [not_or, Nat.not_lt] at h; exact h.2.1
theorem secS_ok {N M : Int} {acc : List Sect} {s : ByteArray} (h0 : 0 ≤ N) (hn : N + (spots s).length ≤ M) (h : ∀ x ∈ acc, SecOk N x) : ∀ x ∈ secS acc s, SecOk M x := by
 unfold secS
 split
 ·
  next hp =>
  intro x hx
  rcases List.mem_append.1 hx with hx | hx
  ·
   obtain ⟨a, b, c, d⟩ := h x hx
   exact ⟨a, b, c, by omega⟩
  ·
   rw [List.mem_singleton] at hx
   subst hx
   have := headE_bd s.data.toList
   exact ⟨by show (1 : Int) ≤ ((headE s.data.toList).1 : Int); omega, by show ((headE s.data.toList).1 : Int) ≤ 4; omega, Int.le_refl _, by show (0 : Int) ≤ M; omega⟩
 ·
  exact bumpL_ok (by omega) hn acc h
/-- How many lines have something else than blanks. -/
def fillN (l : List ByteArray) : Nat := l.countP (fun s => !blankL 32 s.data.toList)
theorem fillN_snoc {l : List ByteArray} {k : Nat} (hk : k < l.length) : fillN (l.take (k + 1)) = fillN (l.take k) + if blankL 32 l[k].data.toList = true then 0 else 1 := by
 unfold fillN; rw [List.take_succ_eq_append_getElem hk, List.countP_append]
 rw [List.countP_singleton]
 cases blankL 32 l[k].data.toList <;> rfl
theorem fillN_le (l : List ByteArray) : fillN l ≤ l.length := List.countP_le_length
theorem spots_empty {s : ByteArray} (h : s.size = 0) : spots s = [] := by
 unfold spots
 rw [h]
 exact congrArg Prod.fst (scanW_pass (s := s) (i := 0) (acc := []) rfl (wAt_out (by omega)))
/-- A text that is empty or ends in a line feed has nothing behind its last line feed. -/
theorem cutB_last {s : ByteArray} (h : s.data.toList = [] ∨ s.data.toList.getLast? = some 10) : ∃ l, cutB 10 s = l ++ [⟨#[]⟩] := by
 have h1 := cutL_last 10 s.data.toList h
 obtain ⟨l, hl⟩ := List.getLast?_eq_some_iff.1 h1
 exact ⟨l.map (fun l => ⟨l.toArray⟩), by unfold cutB; rw [hl, List.map_append]; rfl⟩
theorem secS_empty (acc : List Sect) : secS acc ⟨#[]⟩ = acc := by
 unfold secS
 rw [if_neg (by decide), spots_empty rfl]
 exact bumpL_zero acc
theorem join_bd (sep : List UInt8) (M : Nat) : ∀ xs : List (List UInt8), (∀ x ∈ xs, x.length ≤ M) → (Lib.join xs sep).length ≤ xs.length * (M + sep.length)
 | [], _ => by simp [Lib.join, List.intercalate]
 | [x], h => by
  have := h x (List.mem_cons_self ..)
  simp [Lib.join, List.intercalate]; omega
 | x :: y :: t, h => by
  have h1 := h x (List.mem_cons_self ..)
  have ih := join_bd sep M (y :: t) (fun z hz => h z (List.mem_cons_of_mem _ hz))
  have e : Lib.join (x :: y :: t) sep = x ++ (sep ++ Lib.join (y :: t) sep) := by simp [Lib.join, List.intercalate, List.intersperse]
  rw [e, List.length_append, List.length_append]
  have : (x :: y :: t).length * (M + sep.length) = (y :: t).length * (M + sep.length) + (M + sep.length) := by rw [List.length_cons, Nat.succ_mul]
  omega
end Go.Proofs.YtldgphhiajhfhaaGreatDoor
