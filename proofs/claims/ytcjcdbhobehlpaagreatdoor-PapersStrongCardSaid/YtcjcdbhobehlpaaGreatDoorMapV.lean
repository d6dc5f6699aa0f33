/- Values of maps whose values are slices. Plain. -/
import Derived.Test.YtcjcdbhobehlpaaGreatDoorMap
import Derived.Test.YtcjcdbhobehlpaaGreatDoorArr
namespace Go.Proofs.YtcjcdbhobehlpaaGreatDoor
open Go.RowKit
set_option linter.unusedVariables false
set_option linter.unusedSimpArgs false

/-- The value of a key in a list of entries; nil if there is none. -/
def valOf (es : List (ByteArray × Value)) (p : ByteArray) : Value := (mget es p).getD (.slice none 0 0)
/-- The blocks of the values. -/
def blk (es : List (ByteArray × Value)) (j : Nat) : Prop := ∃ p, (valOf es p).ownBlock = some j
theorem mput_keys (es : List (ByteArray × Value)) (k : ByteArray) (v : Value) (p : ByteArray) : p ∈ (mput es k v).map (·.1) ↔ p = k ∨ p ∈ es.map (·.1) := by
 induction es with
 | nil => simp [mput]
 | cons x r ih =>
  unfold mput
  by_cases h : x.1 = k
  ·
   subst h
   simp
  ·
   rw [if_neg h, List.map_cons, List.mem_cons, ih, List.map_cons, List.mem_cons]
   constructor
   ·
    rintro (h | h | h) <;> simp [h]
   ·
    rintro (h | h | h) <;> simp [h]
theorem mput_nodup (es : List (ByteArray × Value)) (k : ByteArray) (v : Value) (h : (es.map (·.1)).Nodup) : ((mput es k v).map (·.1)).Nodup := by
 induction es with
 | nil => simp [mput]
 | cons x r ih =>
  rw [List.map_cons, List.nodup_cons] at h
  unfold mput
  by_cases hx : x.1 = k
  ·
   subst hx
   simpa using h
  ·
   rw [if_neg hx, List.map_cons, List.nodup_cons]
   refine ⟨?_, ih h.2⟩
   rw [mput_keys]
   rintro (h1 | h1)
   ·
    exact hx h1
   ·
    exact h.1 h1
theorem valOf_put (es : List (ByteArray × Value)) (k : ByteArray) (v : Value) (p : ByteArray) : valOf (mput es k v) p = if k = p then v else valOf es p := by
 unfold valOf; rw [mget_mput]; split <;> simp

theorem mget_of_mem {es : List (ByteArray × Value)} (hn : (es.map (·.1)).Nodup) {k : ByteArray} {v : Value} (h : (k, v) ∈ es) : mget es k = some v := by
 induction es with
 | nil => cases h
 | cons x r ih =>
  rw [List.map_cons, List.nodup_cons] at hn
  unfold mget
  rcases List.mem_cons.1 h with h | h
  ·
   subst h; simp
  ·
   have : x.1 ≠ k := fun e => hn.1 (by rw [e]; exact List.mem_map_of_mem (f := (·.1)) h)
   rw [if_neg this]
   exact ih hn.2 h
theorem valOf_mem {es : List (ByteArray × Value)} (hn : (es.map (·.1)).Nodup) {k : ByteArray} {v : Value} (h : (k, v) ∈ es) : valOf es k = v := by
 unfold valOf; rw [mget_of_mem hn h]; rfl
end Go.Proofs.YtcjcdbhobehlpaaGreatDoor
