/- What there is of a paper at a moment, and when that changes. Plain. -/
import Derived.Test.YtifflpilnpcmoaaGreatDoorDedup
import Derived.Test.YtifflpilnpcmoaaGreatDoorCmpF
namespace Go.Proofs.YtifflpilnpcmoaaGreatDoor
open Go.RowKit
set_option linter.unusedVariables false
set_option linter.unusedSimpArgs false

/-- An arrival: its paper, moment, kind, reason and text. -/
abbrev Arv := ByteArray × Int × Int × ByteArray × ByteArray
instance instCelArv : Cel Arv := ⟨5, fun t => [.string t.1, .int .i64 t.2.1, .int .i64 t.2.2.1, .string t.2.2.2.1, .string t.2.2.2.2], fun _ => rfl, by decide, by simp [Value.oneCell']⟩
instance instInhArv : Inhabited Arv := ⟨(⟨#[]⟩, 0, 0, ⟨#[]⟩, ⟨#[]⟩)⟩
theorem SA.arv {w : World} {a : Option Addr} {l : List Arv} (h : SA w a l) {i : Nat} (hi : i < l.length) :
    ∃ b off, a = some ⟨b, off, none⟩ ∧ w.cell? ⟨b, off + i * 5, none⟩ = some (.string l[i].1) ∧ w.cell? ⟨b, off + i * 5 + 1, none⟩ = some (.int .i64 l[i].2.1) ∧ w.cell? ⟨b, off + i * 5 + 2, none⟩ = some (.int .i64 l[i].2.2.1) ∧ w.cell? ⟨b, off + i * 5 + 3, none⟩ = some (.string l[i].2.2.2.1) ∧ w.cell? ⟨b, off + i * 5 + 4, none⟩ = some (.string l[i].2.2.2.2) := by
  obtain ⟨b, off, ha, hc⟩ := h.at hi
  exact ⟨b, off, ha, hc 0 (by decide), hc 1 (by decide), hc 2 (by decide), hc 3 (by decide), hc 4 (by decide)⟩
/-- Compares two arrivals: of one paper; of any. -/
def cmpO (x y : Arv) : Int := firstOf [Lib.compareInt x.2.1 y.2.1, Lib.compareInt x.2.2.1 y.2.2.1, cmpS x.2.2.2.1 y.2.2.2.1, cmpS x.2.2.2.2 y.2.2.2.2]
def cmpA (x y : Arv) : Int := firstOf [cmpS x.1 y.1, Lib.compareInt x.2.1 y.2.1, Lib.compareInt x.2.2.1 y.2.2.1, cmpS x.2.2.2.1 y.2.2.2.1, cmpS x.2.2.2.2 y.2.2.2.2]
theorem totC_none {α : Type} : TotC (fun _ _ : α => 0) := ⟨fun _ _ => by omega, fun _ _ _ _ _ => Int.le_refl _⟩
theorem totC_O : TotC cmpO := by
  have h := (totC_int.pull (fun x : Arv => x.2.1)).lex ((totC_int.pull (fun x : Arv => x.2.2.1)).lex ((totC_S.pull (fun x : Arv => x.2.2.2.1)).lex ((totC_S.pull (fun x : Arv => x.2.2.2.2)).lex (d := fun _ _ => 0) totC_none)))
  exact h
theorem totC_A : TotC cmpA := by
  have h := (totC_S.pull (fun x : Arv => x.1)).lex ((totC_int.pull (fun x : Arv => x.2.1)).lex ((totC_int.pull (fun x : Arv => x.2.2.1)).lex ((totC_S.pull (fun x : Arv => x.2.2.2.1)).lex ((totC_S.pull (fun x : Arv => x.2.2.2.2)).lex (d := fun _ _ => 0) totC_none))))
  exact h
theorem TotC.refl {α : Type} {c : α → α → Int} (h : TotC c) (x : α) : c x x = 0 := by
  have := h.neg x x
  omega
theorem firstOf_cons (x : Int) (l : List Int) : firstOf (x :: l) = if x ≠ 0 then x else firstOf l := rfl
theorem firstOf_zero : ∀ l : List Int, firstOf l = 0 ↔ ∀ x ∈ l, x = 0
  | [] => by simp [firstOf]
  | x :: l => by
    rw [firstOf_cons]
    by_cases h : x = 0
    · rw [if_neg (fun e => e h), firstOf_zero l]
      simp [h]
    · rw [if_pos h]
      simp [h]
theorem compareI_zero (a b : Int) : Lib.compareInt a b = 0 ↔ a = b := by
  unfold Lib.compareInt
  split
  · constructor <;> intro <;> omega
  · split
    · constructor <;> intro <;> omega
    · constructor <;> intro <;> omega
theorem cmpA_zero {x y : Arv} : cmpA x y = 0 ↔ x = y := by
  unfold cmpA
  rw [firstOf_zero]
  obtain ⟨x1, x2, x3, x4, x5⟩ := x
  obtain ⟨y1, y2, y3, y4, y5⟩ := y
  simp only [List.mem_cons, List.not_mem_nil, or_false, forall_eq_or_imp, forall_eq, cmpS_zero, compareI_zero, Prod.mk.injEq]
theorem cmpA_same {x y : Arv} (h : x.1 = y.1) : cmpA x y = cmpO x y := by
  unfold cmpA cmpO
  rw [firstOf_cons, if_neg (fun e => e (cmpS_zero.2 h))]
theorem cmpO_zero {x y : Arv} (h : x.1 = y.1) (e : cmpO x y = 0) : x = y := cmpA_zero.1 ((cmpA_same h).trans e)
/-- The arrivals of a paper of which a test says true. -/
def ownL (p : Arv → Bool) (id : ByteArray) (l : List Arv) : List Arv := l.filter (fun a => decide (a.1 = id) && p a)
theorem ownL_snoc (p : Arv → Bool) (id : ByteArray) (l : List Arv) (x : Arv) : ownL p id (l ++ [x]) = if x.1 = id ∧ p x = true then ownL p id l ++ [x] else ownL p id l := by
  unfold ownL
  rw [List.filter_append, List.filter_cons]
  by_cases h : x.1 = id <;> cases hp : p x <;> simp [h, hp]
theorem ownL_mem {p : Arv → Bool} {id : ByteArray} {l : List Arv} {x : Arv} : x ∈ ownL p id l ↔ x ∈ l ∧ x.1 = id ∧ p x = true := by
  unfold ownL
  rw [List.mem_filter]
  simp
/-- An arrival of a kind, not after a moment. -/
def pickB (q t : Int) (a : Arv) : Bool := decide (a.2.2.1 = q) && decide (a.2.1 ≤ t)
/-- The number of the last of a kind. -/
def lastI (m : List Arv) (t q : Int) : Nat → Option Nat
  | 0 => none
  | k + 1 => if (m[k]?.any (pickB q t)) = true then some k else lastI m t q k
theorem lastI_yes {m : List Arv} {t q : Int} {k : Nat} (hk : k < m.length) (h : pickB q t m[k] = true) : lastI m t q (k + 1) = some k := by
  show (if _ then _ else _) = _
  rw [List.getElem?_eq_getElem hk, Option.any_some, if_pos h]
theorem lastI_no {m : List Arv} {t q : Int} {k : Nat} (hk : k < m.length) (h : pickB q t m[k] = false) : lastI m t q (k + 1) = lastI m t q k := by
  show (if _ then _ else _) = _
  rw [List.getElem?_eq_getElem hk, Option.any_some, if_neg (by rw [h]; decide)]
theorem lastI_spec (m : List Arv) (t q : Int) : ∀ k, k ≤ m.length → (lastI m t q k = none ∧ ∀ i (hi : i < m.length), i < k → pickB q t m[i] = false) ∨ ∃ i, ∃ hi : i < m.length, lastI m t q k = some i ∧ i < k ∧ pickB q t m[i] = true ∧ ∀ j (hj : j < m.length), j < k → pickB q t m[j] = true → j ≤ i
  | 0, _ => .inl ⟨rfl, fun i _ h => absurd h (Nat.not_lt_zero _)⟩
  | k + 1, hk => by
    cases h : pickB q t m[k]
    · rw [lastI_no (by omega) h]
      rcases lastI_spec m t q k (by omega) with ⟨h1, h2⟩ | ⟨i, hi, h1, h2, h3, h4⟩
      · refine .inl ⟨h1, fun i hi hik => ?_⟩
        by_cases e : i = k
        · subst e; exact h
        · exact h2 i hi (by omega)
      · refine .inr ⟨i, hi, h1, by omega, h3, fun j hj hjk hp => ?_⟩
        by_cases e : j = k
        · subst e; rw [h] at hp; cases hp
        · exact h4 j hj (by omega) hp
    · rw [lastI_yes (by omega) h]
      exact .inr ⟨k, by omega, rfl, by omega, h, fun j hj hjk _ => by omega⟩
def lastA (m : List Arv) (t q : Int) : Option Arv := (lastI m t q m.length).bind (fun i => m[i]?)
/-- The greatest of those with a property. -/
def TopOf (S : Arv → Prop) : Option Arv → Prop
  | none => ∀ a, ¬ S a
  | some r => S r ∧ ∀ a, S a → cmpO a r ≤ 0
theorem TopOf.same {S : Arv → Prop} {id : ByteArray} (hid : ∀ a, S a → a.1 = id) : ∀ {o o' : Option Arv}, TopOf S o → TopOf S o' → o = o'
  | none, none, _, _ => rfl
  | none, some r, h, k => absurd k.1 (h r)
  | some r, none, h, k => absurd h.1 (k r)
  | some r, some r', h, k => by
    have h1 := h.2 r' k.1
    have h2 := k.2 r h.1
    have n1 := totC_O.neg r r'
    have n2 := totC_O.neg r' r
    rw [cmpO_zero ((hid r h.1).trans (hid r' k.1).symm) (by omega)]
theorem TopOf.iff {S T : Arv → Prop} (h : ∀ a, S a ↔ T a) {o : Option Arv} (k : TopOf S o) : TopOf T o := by
  cases o with
  | none => exact fun a ha => k a ((h a).2 ha)
  | some r => exact ⟨(h r).1 k.1, fun a ha => k.2 a ((h a).2 ha)⟩
/-- A paper's arrivals, rising. -/
structure OwnOk (id : ByteArray) (m : List Arv) : Prop where
  rise : m.Pairwise (fun x y => cmpA x y < 0)
  one : ∀ a ∈ m, a.1 = id
theorem lastA_top {id : ByteArray} {m : List Arv} (h : OwnOk id m) (t q : Int) : TopOf (fun a => a ∈ m ∧ pickB q t a = true) (lastA m t q) := by
  unfold lastA
  rcases lastI_spec m t q m.length (Nat.le_refl _) with ⟨h1, h2⟩ | ⟨i, hi, h1, -, h3, h4⟩
  · rw [h1]
    rintro a ⟨ha, hp⟩
    obtain ⟨i, hi, rfl⟩ := List.mem_iff_getElem.1 ha
    rw [h2 i hi hi] at hp
    cases hp
  · rw [h1, Option.bind_some, List.getElem?_eq_getElem hi]
    refine ⟨⟨List.getElem_mem _, h3⟩, ?_⟩
    rintro a ⟨ha, hp⟩
    obtain ⟨j, hj, rfl⟩ := List.mem_iff_getElem.1 ha
    have hji := h4 j hj hj hp
    by_cases e : j = i
    · subst e
      rw [totC_O.refl]
      exact Int.le_refl _
    · have := List.pairwise_iff_getElem.1 h.rise j i hj hi (by omega)
      rw [cmpA_same ((h.one _ (List.getElem_mem hj)).trans (h.one _ (List.getElem_mem hi)).symm)] at this
      omega
/-- The best of a kind, one after another. -/
def okB (p : Arv → Bool) (id : ByteArray) (t q : Int) (a : Arv) : Bool := decide (a.1 = id) && (decide (a.2.1 ≤ t) && (p a && decide (a.2.2.1 = q)))
def newer (o : Option Arv) (a : Arv) : Bool := match o with
  | none => true
  | some b => decide (0 < cmpO a b)
def bestTo (p : Arv → Bool) (id : ByteArray) (t q : Int) (l : List Arv) : Nat → Option Arv
  | 0 => none
  | k + 1 => match l[k]? with
    | none => bestTo p id t q l k
    | some a => if (okB p id t q a && newer (bestTo p id t q l k) a) = true then some a else bestTo p id t q l k
theorem bestTo_yes {p : Arv → Bool} {id : ByteArray} {t q : Int} {l : List Arv} {k : Nat} (hk : k < l.length) (h : (okB p id t q l[k] && newer (bestTo p id t q l k) l[k]) = true) : bestTo p id t q l (k + 1) = some l[k] := by
  unfold bestTo
  rw [List.getElem?_eq_getElem hk]
  exact if_pos h
theorem bestTo_no {p : Arv → Bool} {id : ByteArray} {t q : Int} {l : List Arv} {k : Nat} (hk : k < l.length) (h : (okB p id t q l[k] && newer (bestTo p id t q l k) l[k]) = false) : bestTo p id t q l (k + 1) = bestTo p id t q l k := by
  conv => lhs; unfold bestTo
  rw [List.getElem?_eq_getElem hk]
  exact if_neg (by rw [h]; decide)
theorem bestTo_top (p : Arv → Bool) (id : ByteArray) (t q : Int) (l : List Arv) : ∀ k, k ≤ l.length → TopOf (fun a => a ∈ l.take k ∧ okB p id t q a = true) (bestTo p id t q l k)
  | 0, _ => by rintro a ⟨ha, -⟩; simp at ha
  | k + 1, hk => by
    have ih := bestTo_top p id t q l k (by omega)
    have hm : ∀ a, a ∈ l.take (k + 1) ↔ a ∈ l.take k ∨ a = l[k] := fun a => by
      rw [List.take_succ_eq_append_getElem (by omega), List.mem_append, List.mem_singleton]
    cases ho : okB p id t q l[k]
    · rw [bestTo_no (by omega) (by rw [ho]; rfl)]
      refine ih.iff (fun a => ?_)
      rw [hm]
      constructor
      · rintro ⟨h1, h2⟩; exact ⟨.inl h1, h2⟩
      · rintro ⟨h1 | rfl, h2⟩
        · exact ⟨h1, h2⟩
        · rw [ho] at h2; cases h2
    · cases hb : bestTo p id t q l k with
      | none =>
        rw [hb] at ih
        rw [bestTo_yes (by omega) (by rw [ho, hb]; rfl)]
        refine ⟨⟨(hm _).2 (.inr rfl), ho⟩, ?_⟩
        rintro a ⟨h1, h2⟩
        rcases (hm a).1 h1 with h1 | rfl
        · exact absurd ⟨h1, h2⟩ (ih a)
        · rw [totC_O.refl]; exact Int.le_refl _
      | some b =>
        rw [hb] at ih
        by_cases hg : 0 < cmpO l[k] b
        · rw [bestTo_yes (by omega) (by rw [ho, hb]; exact decide_eq_true hg)]
          refine ⟨⟨(hm _).2 (.inr rfl), ho⟩, ?_⟩
          rintro a ⟨h1, h2⟩
          rcases (hm a).1 h1 with h1 | rfl
          · have := (totC_O.neg b l[k]).2 hg
            exact totC_O.trans a b l[k] (ih.2 a ⟨h1, h2⟩) (by omega)
          · rw [totC_O.refl]; exact Int.le_refl _
        · rw [bestTo_no (by omega) (by rw [ho, hb]; exact decide_eq_false hg), hb]
          refine ⟨⟨(hm _).2 (.inl ih.1.1), ih.1.2⟩, ?_⟩
          rintro a ⟨h1, h2⟩
          rcases (hm a).1 h1 with h1 | rfl
          · exact ih.2 a ⟨h1, h2⟩
          · omega
/-- The last of a paper's own arrivals of a kind is the best one. -/
theorem last_best {p : Arv → Bool} {id : ByteArray} {m l : List Arv} (h : OwnOk id m) (hm : ∀ a, a ∈ m ↔ a ∈ l ∧ a.1 = id ∧ p a = true) (t q : Int) : lastA m t q = bestTo p id t q l l.length := by
  refine TopOf.same (S := fun a => a ∈ m ∧ pickB q t a = true) (id := id) (fun a ha => h.one a ha.1) (lastA_top h t q) ((bestTo_top p id t q l l.length (Nat.le_refl _)).iff (fun a => ?_))
  rw [List.take_length, hm]
  unfold okB pickB
  simp only [Bool.and_eq_true, decide_eq_true_eq]
  constructor
  · rintro ⟨h1, h2, h3, h4, h5⟩; exact ⟨⟨h1, h2, h4⟩, h5, h3⟩
  · rintro ⟨⟨h1, h2, h4⟩, h5, h3⟩; exact ⟨h1, h2, h3, h4, h5⟩
/-- What there is: the paper, its status, abstract, full text, since when. -/
abbrev Ent5 := ByteArray × Int × ByteArray × ByteArray × Int
instance instCelEnt : Cel Ent5 := ⟨5, fun t => [.string t.1, .int .i64 t.2.1, .string t.2.2.1, .string t.2.2.2.1, .int .i64 t.2.2.2.2], fun _ => rfl, by decide, by simp [Value.oneCell']⟩
def newF (a : Arv) (fu : Option Arv) : Arv := match fu with | none => a | some f => if 0 < cmpO f a then f else a
def newest (a : Arv) (fu ba : Option Arv) : Arv := newF (newF a fu) ba
def isBack (a : Arv) (fu ba : Option Arv) : Bool := match ba with | none => false | some b => decide (0 < cmpO b (newF a fu))
def entV (id : ByteArray) (ab fu ba : Option Arv) : Ent5 :=
  match ab with
  | none => (id, 1, ⟨#[]⟩, ⟨#[]⟩, 0)
  | some a => (id, if isBack a fu ba = true then 4 else if fu.isSome = true then 3 else 2, a.2.2.2.2, (fu.map (·.2.2.2.2)).getD ⟨#[]⟩, (newest a fu ba).2.1)
def entL (m : List Arv) (id : ByteArray) (t : Int) : Ent5 := entV id (lastA m t 1) (lastA m t 2) (lastA m t 3)
def entR (p : Arv → Bool) (l : List Arv) (id : ByteArray) (t : Int) : Ent5 := entV id (bestTo p id t 1 l l.length) (bestTo p id t 2 l l.length) (bestTo p id t 3 l l.length)
theorem entL_R {p : Arv → Bool} {id : ByteArray} {m l : List Arv} (h : OwnOk id m) (hm : ∀ a, a ∈ m ↔ a ∈ l ∧ a.1 = id ∧ p a = true) (t : Int) : entL m id t = entR p l id t := by
  unfold entL entR
  rw [last_best h hm, last_best h hm, last_best h hm]
/-- What there is changes at a moment. -/
def chg (e : Int → Ent5) (t : Int) : Bool := !decide (e t = e (t - 1))
def momL (m : List Arv) (id : ByteArray) : List Int := (dedL (m.map (·.2.1))).filter (chg (entL m id))
def sortZ (l : List Int) : List Int := l.mergeSort (fun x y => decide (x ≤ y))
def momR (p : Arv → Bool) (l : List Arv) (id : ByteArray) : List Int := (dedL (sortZ ((l.filter (fun a => decide (a.1 = id))).map (·.2.1)))).filter (chg (entR p l id))
theorem lastI_same {m : List Arv} {t t' q : Int} (h : ∀ a ∈ m, pickB q t a = pickB q t' a) : ∀ k, k ≤ m.length → lastI m t q k = lastI m t' q k
  | 0, _ => rfl
  | k + 1, hk => by
    have hp := h _ (List.getElem_mem (by omega : k < m.length))
    cases h1 : pickB q t m[k]
    · rw [lastI_no (by omega) h1, lastI_no (by omega) (by rw [← hp]; exact h1), lastI_same h k (by omega)]
    · rw [lastI_yes (by omega) h1, lastI_yes (by omega) (by rw [← hp]; exact h1)]
theorem chg_mem {m : List Arv} {id : ByteArray} {t : Int} (h : chg (entL m id) t = true) : ∃ a ∈ m, a.2.1 = t := by
  apply Classical.byContradiction
  intro hn
  have hs : ∀ q, lastA m t q = lastA m (t - 1) q := fun q => by
    unfold lastA
    rw [lastI_same (t := t) (t' := t - 1) (fun a ha => ?_) _ (Nat.le_refl _)]
    have hne : a.2.1 ≠ t := fun e => hn ⟨a, ha, e⟩
    unfold pickB
    rw [decide_eq_decide.2 (show a.2.1 ≤ t ↔ a.2.1 ≤ t - 1 by omega)]
  have : entL m id t = entL m id (t - 1) := by unfold entL; rw [hs, hs, hs]
  unfold chg at h
  rw [this] at h
  simp at h
theorem sortZ_ok (l : List Int) : (sortZ l).Pairwise (fun x y => Lib.compareInt x y ≤ 0) ∧ ∀ x, x ∈ sortZ l ↔ x ∈ l := by
  unfold sortZ
  refine ⟨?_, fun x => List.mem_mergeSort⟩
  have h := List.pairwise_mergeSort (le := fun x y : Int => decide (x ≤ y)) (fun a b c h1 h2 => by simp at *; omega) (fun a b => by simp; omega) l
  refine h.imp fun {a b} h => ?_
  have h1 := of_decide_eq_true h
  have := compareI_neg b a
  have := totC_int.neg b a
  omega
theorem own_ats {id : ByteArray} {m : List Arv} (h : OwnOk id m) : (m.map (·.2.1)).Pairwise (fun x y => Lib.compareInt x y ≤ 0) := by
  rw [List.pairwise_map]
  refine List.Pairwise.imp_of_mem (fun {a b} ha hb hab => ?_) h.rise
  rw [cmpA_same ((h.one a ha).trans (h.one b hb).symm)] at hab
  unfold cmpO at hab
  rw [firstOf_cons] at hab
  split at hab
  · omega
  · rename_i h0
    have : Lib.compareInt a.2.1 b.2.1 = 0 := Classical.not_not.1 h0
    omega
theorem mom_same {p : Arv → Bool} {id : ByteArray} {m l : List Arv} (h : OwnOk id m) (hm : ∀ a, a ∈ m ↔ a ∈ l ∧ a.1 = id ∧ p a = true) : momL m id = momR p l id := by
  have he : entR p l id = entL m id := funext fun t => (entL_R h hm t).symm
  unfold momL momR
  rw [he]
  have r1 := (dedL_rise totC_int (fun x y e => (compareI_zero x y).1 e) (own_ats h)).filter (chg (entL m id))
  have r2 := (dedL_rise totC_int (fun x y e => (compareI_zero x y).1 e) (sortZ_ok ((l.filter (fun a => decide (a.1 = id))).map (·.2.1))).1).filter (chg (entL m id))
  refine rise_same (fun x y h1 h2 => by have := totC_int.neg x y; omega) _ _ r1 r2 (fun x => ?_)
  rw [List.mem_filter, List.mem_filter, dedL_mem, dedL_mem, (sortZ_ok _).2, List.mem_map, List.mem_map]
  constructor
  · rintro ⟨⟨a, ha, rfl⟩, hc⟩
    have := (hm a).1 ha
    exact ⟨⟨a, List.mem_filter.2 ⟨this.1, decide_eq_true this.2.1⟩, rfl⟩, hc⟩
  · rintro ⟨-, hc⟩
    obtain ⟨a, ha, e⟩ := chg_mem hc
    exact ⟨⟨a, ha, e⟩, hc⟩
/-- Sorted, without doubles, a paper's own. -/
theorem own_ok (p : Arv → Bool) (id : ByteArray) (l : List Arv) : OwnOk id (ownL p id (dedL (sortC cmpA l))) ∧ ∀ a, a ∈ ownL p id (dedL (sortC cmpA l)) ↔ a ∈ l ∧ a.1 = id ∧ p a = true := by
  obtain ⟨-, hp, hs⟩ := sortC_both totC_A l
  refine ⟨⟨?_, fun a ha => (ownL_mem.1 ha).2.1⟩, fun a => ?_⟩
  · exact (dedL_rise totC_A (fun x y e => cmpA_zero.1 e) hs).filter _
  · rw [ownL_mem, dedL_mem, hp.mem_iff]
end Go.Proofs.YtifflpilnpcmoaaGreatDoor
