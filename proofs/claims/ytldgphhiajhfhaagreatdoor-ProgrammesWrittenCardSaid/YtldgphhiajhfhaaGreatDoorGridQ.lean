/- Elements of a grid's lists; the grid that a maker's variable holds. -/
import Derived.Test.YtldgphhiajhfhaaGreatDoorRevG
import Derived.Test.YtldgphhiajhfhaaGreatDoorMakeGrid
namespace Go.Proofs.YtldgphhiajhfhaaGreatDoor
open Go.RowKit
set_option linter.unusedVariables false
set_option linter.unusedSimpArgs false

theorem SA.romC {w : World} {a : Option Addr} {l : List Rom} (h : SA w a l) {i : Nat} (hi : i < l.length) :
  ∃ b off, a = some ⟨b, off, none⟩ ∧ w.cell? ⟨b, off + i * 2, none⟩ = some (.string l[i].1) ∧ w.cell? ⟨b, off + i * 2 + 1, none⟩ = some (.int .i64 l[i].2) := by
 obtain ⟨b, off, ha, hc⟩ := h.at hi
 exact ⟨b, off, ha, hc 0 (by decide), hc 1 (by decide)⟩
theorem SA.sltC {w : World} {a : Option Addr} {l : List Slt} (h : SA w a l) {i : Nat} (hi : i < l.length) :
  ∃ b off, a = some ⟨b, off, none⟩ ∧ w.cell? ⟨b, off + i * 3, none⟩ = some (.string l[i].1) ∧ w.cell? ⟨b, off + i * 3 + 1, none⟩ = some (.int .i64 l[i].2.1) ∧ w.cell? ⟨b, off + i * 3 + 2, none⟩ = some (.int .i64 l[i].2.2) := by
 obtain ⟨b, off, ha, hc⟩ := h.at hi
 exact ⟨b, off, ha, hc 0 (by decide), hc 1 (by decide), hc 2 (by decide)⟩
theorem SA.wshC {w : World} {a : Option Addr} {l : List Wsh} (h : SA w a l) {i : Nat} (hi : i < l.length) :
  ∃ b off, a = some ⟨b, off, none⟩ ∧ w.cell? ⟨b, off + i * 2, none⟩ = some (.string l[i].person) ∧ w.cell? ⟨b, off + i * 2 + 1, none⟩ = some (.slice l[i].a1 l[i].papers.length l[i].c1) := by
 obtain ⟨b, off, ha, hc⟩ := h.at hi
 exact ⟨b, off, ha, hc 0 (by decide), hc 1 (by decide)⟩
theorem SA.banC {w : World} {a : Option Addr} {l : List Ban2} (h : SA w a l) {i : Nat} (hi : i < l.length) :
  ∃ b off, a = some ⟨b, off, none⟩ ∧ w.cell? ⟨b, off + i * 2, none⟩ = some (.string l[i].1) ∧ w.cell? ⟨b, off + i * 2 + 1, none⟩ = some (.string l[i].2) := by
 obtain ⟨b, off, ha, hc⟩ := h.at hi
 exact ⟨b, off, ha, hc 0 (by decide), hc 1 (by decide)⟩
/-- The grid of a maker's variable, as a whole. -/
theorem GW.grd {base gb : Nat} {vr vs vt vw vb : Value} {lr : List Rom} {ls : List Slt} {lt : List Tlk} {lw : List Wsh} {lb : List Ban2} {w : World} (h : GW base gb vr vs vt vw vb lr ls lt lw lb w)
  (hn : lr.length ≤ 21 ∧ ls.length ≤ 21 ∧ lt.length ≤ 21 ∧ lw.length ≤ 21 ∧ lb.length ≤ 21) (hr : ∀ x ∈ lr, RomOk x) (hs : ∀ x ∈ ls, SltOk x) (ht : ∀ x ∈ lt, TlkOk x) (hw : ∀ x ∈ lw, WshOk x) (hb : ∀ x ∈ lb, BanOk x) :
  ∃ g : Grd, Value.agg #[vr, vs, vt, vw, vb] = g.agg ∧ GRd w g ∧ GSm g := by
 obtain ⟨a1, c1, rfl, s1, -, -⟩ := h.fr.form
 obtain ⟨a2, c2, rfl, s2, -, -⟩ := h.fs.form
 obtain ⟨a3, c3, rfl, s3, -, -⟩ := h.ft.form
 obtain ⟨a4, c4, rfl, s4, -, -⟩ := h.fw.form
 obtain ⟨a5, c5, rfl, s5, -, -⟩ := h.fb.form
 refine ⟨⟨lr, ls, lt, lw, lb, a1, c1, a2, c2, a3, c3, a4, c4, a5, c5⟩, rfl, ⟨s1, s2, s3, s4, s5, fun t hx => (h.rdt t hx).1, fun t hx => (h.rdt t hx).2, fun t hx => h.rdw t hx⟩, ⟨?_, ?_, ?_, ?_, ?_, ?_, ?_, ht, fun x hx => ⟨(hw x hx).1, (hw x hx).2.1, (hw x hx).2.2.1⟩, hb⟩⟩
 ·
  show lr.length ≤ _; omega
 ·
  show ls.length ≤ _; omega
 ·
  show lt.length ≤ _; omega
 ·
  show lw.length ≤ _; omega
 ·
  show lb.length ≤ _; omega
 ·
  exact fun x hx => (hr x hx).1
 ·
  intro x hx
  obtain ⟨h1, h2, h3, h4, h5⟩ := hs x hx
  exact ⟨h1, h2, h3, by omega, by omega⟩
/-- What a search by key returns. -/
def talkOr (g : Grd) (k : ByteArray) : Tlk := (talkOf g k).getD ⟨⟨#[]⟩, [], [], 0, none, 0, none, 0⟩
def talkV (g : Grd) (k : ByteArray) : Value := (talkOr g k).agg
def sltV (s : Slt) : Value := .agg #[.string s.1, .int .i64 s.2.1, .int .i64 s.2.2]
def romV (s : Rom) : Value := .agg #[.string s.1, .int .i64 s.2]
def slotV (g : Grd) (k : ByteArray) : Value := sltV (slotOr g k)
def roomV (g : Grd) (k : ByteArray) : Value := romV ((roomOf g k).getD (⟨#[]⟩, 0))
/-- A search that has not found yet. -/
theorem find_none {α : Type} {l : List α} {p : α → Bool} {n : Nat} (h : ∀ j (hj : j < l.length), j < n → p l[j] = false) (hn : l.length ≤ n) : l.find? p = none := by
 rw [List.find?_eq_none]
 intro x hx
 obtain ⟨j, hj, rfl⟩ := List.mem_iff_getElem.1 hx
 rw [h j hj (by omega)]
 decide
theorem talkOr_rd {w : World} {g : Grd} (h : GRd w g) (k : ByteArray) : SA w (talkOr g k).a1 (talkOr g k).speakers ∧ SA w (talkOr g k).a2 (talkOr g k).topics := by
 unfold talkOr
 cases e : talkOf g k with
 | none => exact ⟨.inl rfl, .inl rfl⟩
 | some t => exact ⟨h.speakers t (List.mem_of_find?_eq_some e), h.topics t (List.mem_of_find?_eq_some e)⟩
theorem talkOr_ok {g : Grd} (h : GSm g) (k : ByteArray) : TlkOk (talkOr g k) := by
 unfold talkOr
 cases e : talkOf g k with
 | none => exact ⟨by decide, by decide, by decide, (fun x hx => by cases hx), (fun x hx => by cases hx), by decide, by decide⟩
 | some t => exact h.talk t (List.mem_of_find?_eq_some e)
theorem talkSp_or (g : Grd) (x : ByteArray) : talkSp g x = (talkOr g x).speakers := by
 unfold talkSp talkOr
 cases talkOf g x <;> rfl
theorem talkLong_or (g : Grd) (x : ByteArray) : talkLong g x = (talkOr g x).long := by
 unfold talkLong talkOr
 cases talkOf g x <;> rfl
theorem slotOr_ok {g : Grd} (h : GSm g) (k : ByteArray) : (slotOr g k).1.size ≤ 1000 ∧ -100000000 ≤ (slotOr g k).2.1 ∧ (slotOr g k).2.1 ≤ 100000000 ∧ -100000000 ≤ (slotOr g k).2.2 ∧ (slotOr g k).2.2 ≤ 100000000 := by
 unfold slotOr
 cases e : slotOf g k with
 | none => decide
 | some t => exact h.slot t (List.mem_of_find?_eq_some e)
theorem find_at {α : Type} {l : List α} {p : α → Bool} {k : Nat} (hk : k < l.length) (h : ∀ j (hj : j < l.length), j < k → p l[j] = false) (hp : p l[k] = true) : l.find? p = some l[k] := by
 induction l generalizing k with
 | nil => simp at hk
 | cons x r ih =>
  cases k with
  | zero => simp [List.find?_cons, show p x = true from hp]
  | succ k =>
   have h0 : p x = false := h 0 (by simp) (by omega)
   rw [List.find?_cons, h0]
   exact ih (by simpa using hk) (fun j hj hjk => by have h1 := h (j + 1) (by simpa using hj) (by omega); rw [List.getElem_cons_succ] at h1; exact h1) (by rw [List.getElem_cons_succ] at hp; exact hp)
end Go.Proofs.YtldgphhiajhfhaaGreatDoor
