/- Drafts that have much in common. Plain. -/
import Derived.Test.YtlpknpjfmacemaaGreatDoorOver
import Derived.Test.YtlpknpjfmacemaaGreatDoorLowP
namespace Go.Proofs.YtlpknpjfmacemaaGreatDoor
open Go.RowKit
set_option linter.unusedVariables false
set_option linter.unusedSimpArgs false

abbrev Twin := ByteArray × ByteArray × Int × Int
instance instCelTwin : Cel Twin := ⟨4, fun t => [.string t.1, .string t.2.1, .int .i64 t.2.2.1, .int .i64 t.2.2.2], fun _ => rfl, by decide, by simp [Value.oneCell']⟩
theorem SA.twin {w : World} {a : Option Addr} {l : List Twin} (h : SA w a l) {i : Nat} (hi : i < l.length) :
    ∃ b off, a = some ⟨b, off, none⟩ ∧ w.cell? ⟨b, off + i * 4, none⟩ = some (.string l[i].1) ∧ w.cell? ⟨b, off + i * 4 + 1, none⟩ = some (.string l[i].2.1) ∧ w.cell? ⟨b, off + i * 4 + 2, none⟩ = some (.int .i64 l[i].2.2.1) ∧ w.cell? ⟨b, off + i * 4 + 3, none⟩ = some (.int .i64 l[i].2.2.2) := by
  obtain ⟨b, off, ha, hc⟩ := h.at hi
  exact ⟨b, off, ha, hc 0 (by decide), hc 1 (by decide), hc 2 (by decide), hc 3 (by decide)⟩
abbrev Drf := ByteArray × ByteArray
instance instCelDrf : Cel Drf := ⟨2, fun t => [.string t.1, .string t.2], fun _ => rfl, by decide, by simp [Value.oneCell']⟩
theorem SA.drf {w : World} {a : Option Addr} {l : List Drf} (h : SA w a l) {i : Nat} (hi : i < l.length) :
    ∃ b off, a = some ⟨b, off, none⟩ ∧ w.cell? ⟨b, off + i * 2, none⟩ = some (.string l[i].1) ∧ w.cell? ⟨b, off + i * 2 + 1, none⟩ = some (.string l[i].2) := by
  obtain ⟨b, off, ha, hc⟩ := h.at hi
  exact ⟨b, off, ha, hc 0 (by decide), hc 1 (by decide)⟩

/-- How much two lists of words have in common, as two numbers. -/
def overP (x y : List ByteArray) (least : Int) : Int × Int :=
  if x.length = 0 ∨ y.length = 0 then (0, 1)
  else if lowN (cntX x y least) x.length * lowD (cntY x y least) y.length < lowN (cntY x y least) y.length * lowD (cntX x y least) x.length then (lowN (cntY x y least) y.length, lowD (cntY x y least) y.length) else (lowN (cntX x y least) x.length, lowD (cntX x y least) x.length)
theorem overV_eq (x y : List ByteArray) (least : Int) : overV x y least = .agg #[.int .i64 (overP x y least).1, .int .i64 (overP x y least).2] := by
  unfold overV overP
  split
  · rfl
  · split <;> rfl
/-- A fraction of a draft's words. -/
def OkF (f : Int × Int) : Prop := 0 ≤ f.1 ∧ f.1 ≤ 600 ∧ 1 ≤ f.2 ∧ f.2 ≤ 600
theorem overP_ok {x y : List ByteArray} (least : Int) (hx : x.length ≤ 600) (hy : y.length ≤ 600) : OkF (overP x y least) := by
  have h1 := cntB_le x.length (inRuns (runsL x y least) (fun r => r.1))
  have h2 := cntB_le y.length (inRuns (runsL x y least) (fun r => r.2.1))
  unfold overP
  split
  · exact ⟨by show (0 : Int) ≤ 0; omega, by show (0 : Int) ≤ 600; omega, by show (1 : Int) ≤ 1; omega, by show (1 : Int) ≤ 600; omega⟩
  · have a1 := lowN_bd (cntX x y least) x.length (by omega) (by omega)
    have a2 := lowD_bd (cntX x y least) x.length (by omega)
    have b1 := lowN_bd (cntY x y least) y.length (by omega) (by omega)
    have b2 := lowD_bd (cntY x y least) y.length (by omega)
    have c1 : (cntX x y least : Int) ≤ 600 := by unfold cntX; omega
    have c2 : (cntY x y least : Int) ≤ 600 := by unfold cntY; omega
    split
    · exact ⟨b1.1, by show lowN _ _ ≤ _; omega, b2.1, by show lowD _ _ ≤ _; omega⟩
    · exact ⟨a1.1, by show lowN _ _ ≤ _; omega, a2.1, by show lowD _ _ ≤ _; omega⟩

def twinOf (a b : Drf) (least percent : Int) : List Twin :=
  if Op.bytesLess a.1.toList b.1.toList = false then [] else if percent * (overP (wordsS a.2) (wordsS b.2) least).2 ≤ (overP (wordsS a.2) (wordsS b.2) least).1 * 100 then [(a.1, b.1, (overP (wordsS a.2) (wordsS b.2) least).1, (overP (wordsS a.2) (wordsS b.2) least).2)] else []
def twinRow (a : Drf) (ds : List Drf) (least percent : Int) : List Twin := ds.flatMap (fun b => twinOf a b least percent)
def twinsTo (es ds : List Drf) (least percent : Int) : List Twin := es.flatMap (fun a => twinRow a ds least percent)
def twinsL (ds : List Drf) (least percent : Int) : List Twin := twinsTo ds ds least percent
theorem twinOf_len (a b : Drf) (least percent : Int) : (twinOf a b least percent).length ≤ 1 := by
  unfold twinOf
  split
  · simp
  · split <;> simp
theorem bless_self : ∀ x : List UInt8, Op.bytesLess x x = false
  | [] => rfl
  | a :: r => by simp [Op.bytesLess, bless_self r, UInt8.lt_irrefl]
theorem twinOf_self (a : Drf) (least percent : Int) : twinOf a a least percent = [] := by
  unfold twinOf
  rw [if_pos (bless_self _)]
theorem twinRow_len (a : Drf) (least percent : Int) : ∀ ds : List Drf, (twinRow a ds least percent).length ≤ ds.length
  | [] => Nat.zero_le _
  | d :: r => by
    have h1 := twinOf_len a d least percent
    have h2 := twinRow_len a least percent r
    unfold twinRow at h2 ⊢
    rw [List.flatMap_cons, List.length_append, List.length_cons]
    omega
theorem twinRow_mem {a : Drf} (least percent : Int) : ∀ {ds : List Drf}, a ∈ ds → (twinRow a ds least percent).length + 1 ≤ ds.length
  | d :: r, h => by
    by_cases e : a = d
    · subst e
      have h2 := twinRow_len a least percent r
      unfold twinRow at h2 ⊢
      rw [List.flatMap_cons, List.length_append, List.length_cons, twinOf_self]
      simpa using h2
    · have h1 := twinOf_len a d least percent
      have h2 := twinRow_mem least percent (List.mem_of_ne_of_mem e h)
      unfold twinRow at h2 ⊢
      rw [List.flatMap_cons, List.length_append, List.length_cons]
      omega
theorem twinsTo_len {ds : List Drf} (least percent : Int) : ∀ {es : List Drf}, (∀ e ∈ es, e ∈ ds) → (twinsTo es ds least percent).length + es.length ≤ es.length * ds.length
  | [], _ => by simp [twinsTo]
  | e :: r, h => by
    have h1 := twinRow_mem least percent (h e (List.mem_cons_self ..))
    have h2 := twinsTo_len (es := r) least percent (fun x hx => h x (List.mem_cons_of_mem _ hx))
    unfold twinsTo at h2 ⊢
    rw [List.flatMap_cons, List.length_append, List.length_cons, Nat.succ_mul]
    omega
theorem twinsL_len {ds : List Drf} (least percent : Int) (h : ds.length ≤ 4) : (twinsL ds least percent).length ≤ 12 := by
  have h1 := twinsTo_len (ds := ds) (es := ds) least percent (fun _ h => h)
  unfold twinsL
  have h2 : ds.length = 0 ∨ ds.length = 1 ∨ ds.length = 2 ∨ ds.length = 3 ∨ ds.length = 4 := by omega
  rcases h2 with h2 | h2 | h2 | h2 | h2 <;> rw [h2] at h1 <;> omega
/-- A twin whose numbers are a fraction of a draft's words. -/
def OkT (t : Twin) : Prop := OkF t.2.2
theorem twinOf_ok {a b : Drf} (least percent : Int) (ha : (wordsS a.2).length ≤ 600) (hb : (wordsS b.2).length ≤ 600) : ∀ t ∈ twinOf a b least percent, OkT t := fun t ht => by
  unfold twinOf at ht
  split at ht
  · cases ht
  · split at ht
    · rw [List.mem_singleton] at ht
      subst ht
      exact overP_ok least ha hb
    · cases ht
theorem twinsTo_ok {es ds : List Drf} (least percent : Int) (he : ∀ a ∈ es, (wordsS a.2).length ≤ 600) (hd : ∀ a ∈ ds, (wordsS a.2).length ≤ 600) : ∀ t ∈ twinsTo es ds least percent, OkT t := fun t ht => by
  unfold twinsTo at ht
  obtain ⟨a, ha, h1⟩ := List.mem_flatMap.1 ht
  unfold twinRow at h1
  obtain ⟨b, hb, h2⟩ := List.mem_flatMap.1 h1
  exact twinOf_ok least percent (he a ha) (hd b hb) t h2
theorem twinRow_snoc (a : Drf) (ds : List Drf) (d : Drf) (least percent : Int) : twinRow a (ds ++ [d]) least percent = twinRow a ds least percent ++ twinOf a d least percent := by
  unfold twinRow; rw [List.flatMap_append]; simp
theorem twinsTo_snoc (es ds : List Drf) (d : Drf) (least percent : Int) : twinsTo (es ++ [d]) ds least percent = twinsTo es ds least percent ++ twinRow d ds least percent := by
  unfold twinsTo; rw [List.flatMap_append]; simp
theorem twinsTo_le {es ds : List Drf} (least percent : Int) : (twinsTo es ds least percent).length ≤ es.length * ds.length := by
  unfold twinsTo
  induction es with
  | nil => simp
  | cons a r ih =>
    have h := twinRow_len a least percent ds
    rw [List.flatMap_cons, List.length_append, List.length_cons, Nat.succ_mul]
    omega

end Go.Proofs.YtlpknpjfmacemaaGreatDoor
