/- Names and their initials; where words follow one another; covered texts. Plain. -/
import Derived.Test.YthajoedabjfaaaaGreatDoorWordP
import Derived.Lib.Join
import Derived.Shelf.Unicode.DecodeAny
import Derived.Shelf.Unicode.DecodeLastEight
import Derived.Lib.TrimUEq
namespace Go.Proofs.YthajoedabjfaaaaGreatDoor
open Go.RowKit
set_option linter.unusedVariables false
set_option linter.unusedSimpArgs false

/-- The first k of a list changed. -/
def chgTo {α : Type} (f : α → α) (l : List α) (k : Nat) : List α := (l.take k).map f ++ l.drop k
section
variable {α : Type} {f : α → α}
theorem chgTo_zero (l : List α) : chgTo f l 0 = l := by simp [chgTo]
theorem chgTo_length (l : List α) (k : Nat) : (chgTo f l k).length = l.length := by
  unfold chgTo; rw [List.length_append, List.length_map, List.length_take, List.length_drop]; omega
theorem chgTo_get {l : List α} {k : Nat} (hk : k ≤ l.length) (j : Nat) : (chgTo f l k)[j]? = if j < k then l[j]?.map f else l[j]? := by
  unfold chgTo
  by_cases hj : j < k
  · rw [if_pos hj, List.getElem?_append_left (by rw [List.length_map, List.length_take]; omega), List.getElem?_map, List.getElem?_take_of_lt hj]
  · rw [if_neg hj, List.getElem?_append_right (by rw [List.length_map, List.length_take]; omega), List.length_map, List.length_take, List.getElem?_drop]
    congr 1
    omega
theorem chgTo_at {l : List α} {k : Nat} (h : k < l.length) (h' : k < (chgTo f l k).length) : (chgTo f l k)[k] = l[k] := by
  have e := chgTo_get (f := f) (l := l) (k := k) (by omega) k
  rw [if_neg (by omega), List.getElem?_eq_getElem h', List.getElem?_eq_getElem h] at e
  exact Option.some.inj e
theorem chgTo_succ {l : List α} {k : Nat} (h : k < l.length) : chgTo f l (k + 1) = (chgTo f l k).set k (f l[k]) := by
  apply List.ext_getElem?
  intro j
  rw [List.getElem?_set, chgTo_get (by omega), chgTo_get (by omega), chgTo_length]
  by_cases hj : k = j
  · subst hj
    rw [if_pos (by omega), if_pos rfl, if_pos h, List.getElem?_eq_getElem h]; rfl
  · rw [if_neg hj]
    by_cases hlt : j < k
    · rw [if_pos (by omega), if_pos hlt]
    · rw [if_neg (by omega), if_neg hlt]
end
/-- How many bytes the first code point of a string has. -/
def runeN (s : ByteArray) : Nat := (Lib.decodeGo s).2
theorem runeN_le (s : ByteArray) : runeN s ≤ s.size := Lib.decodeGo_le_size s
theorem runeN_pos {s : ByteArray} (h : 0 < s.size) : 1 ≤ runeN s := by
  unfold runeN Lib.decodeGo
  rw [if_neg (by omega)]
  rw [Lib.decode_at]
  exact Lib.decodeN_ge1 _ _ _ _ _
/-- A word cut behind its first code point. -/
def cutW (w : ByteArray) : ByteArray := w.extract 0 (runeN w)
/-- The words of a name, all but the last one cut. -/
def initL (ws : List ByteArray) : List ByteArray := chgTo cutW ws (ws.length - 1)
theorem initL_length (ws : List ByteArray) : (initL ws).length = ws.length := chgTo_length _ _
def joinB (ws : List ByteArray) : ByteArray := ⟨(Lib.join (ws.map (·.data.toList)) [32]).toArray⟩

theorem lowU_idem (c : UInt8) : lowU (lowU c) = lowU c := by
  by_cases h : 65 ≤ c.toNat ∧ c.toNat ≤ 90
  · have := lowU_yes h.1 h.2
    exact lowU_no (by omega)
  · rw [lowU_no h, lowU_no h]
theorem wordC_low (c : UInt8) (h : wordC c.toNat = true) : wordC (lowU c).toNat = true := by
  by_cases h1 : 65 ≤ c.toNat ∧ c.toNat ≤ 90
  · have := lowU_yes h1.1 h1.2
    rw [this]
    unfold wordC
    exact decide_eq_true (by omega)
  · rw [lowU_no h1]; exact h
/-- A string of bytes of words without capitals. -/
def PureW (l : List UInt8) : Prop := l ≠ [] ∧ ∀ c ∈ l, wordC c.toNat = true ∧ lowU c = c
theorem scanW_word (s : ByteArray) : ∀ i, (∀ p ∈ (scanW s i).1, ∀ j, p.1 ≤ j → j < p.2 → wAt s j = true) ∧ ∀ f, (scanW s i).2 = some f → ∀ j, f ≤ j → j < i → wAt s j = true
  | 0 => ⟨fun p hp => (by cases hp), fun f hf => (by cases hf)⟩
  | i + 1 => by
    obtain ⟨h2, h3⟩ := scanW_word s i
    obtain ⟨⟨acc, fo⟩, he⟩ : ∃ r, scanW s i = r := ⟨_, rfl⟩
    rw [he] at h2 h3
    simp only at h2 h3
    cases hw : wAt s i <;> cases fo with
    | none =>
      first
        | rw [scanW_pass he hw]
        | rw [scanW_open he hw]
      refine ⟨h2, fun f hf => ?_⟩
      first
        | (cases hf; done)
        | (simp only [Option.some.injEq] at hf
           subst hf
           intro j h4 h5
           obtain rfl : j = i := by omega
           exact hw)
    | some g =>
      have hg := h3 g rfl
      first
        | rw [scanW_close he hw]
        | rw [scanW_go he hw]
      refine ⟨fun p hp => ?_, fun f hf => ?_⟩
      · first
          | exact h2 p hp
          | (rcases List.mem_append.1 hp with hp | hp
             · exact h2 p hp
             · rw [List.mem_singleton] at hp; subst hp; exact hg)
      · first
          | (cases hf; done)
          | (simp only [Option.some.injEq] at hf
             subst hf
             intro j h4 h5
             by_cases h6 : j = i
             · rw [h6]; exact hw
             · exact hg j h4 (by omega))
theorem spots_word {s : ByteArray} {p : Nat × Nat} (h : p ∈ spots s) {j : Nat} (h1 : p.1 ≤ j) (h2 : j < p.2) : wAt s j = true := (scanW_word s (s.size + 1)).1 p h j h1 h2
theorem getB {s : ByteArray} {i : Nat} (h : i < s.size) : s[i] = s.data.toList[i]'(by simpa using h) := by
  simp
  rfl
theorem extract_list (s : ByteArray) (a b : Nat) : (s.extract a b).data.toList = (s.data.toList.take b).drop a := by
  rw [ByteArray.data_extract, Array.toList_extract]
  simp [List.extract, List.drop_take]
theorem mem_take_drop {α : Type} {l : List α} {a b : Nat} {c : α} (h : c ∈ (l.take b).drop a) : ∃ j, ∃ hj : j < l.length, a ≤ j ∧ j < b ∧ l[j] = c := by
  obtain ⟨i, hi, rfl⟩ := List.mem_iff_getElem.1 h
  rw [List.length_drop, List.length_take] at hi
  refine ⟨a + i, by omega, by omega, by omega, ?_⟩
  rw [List.getElem_drop, List.getElem_take]
theorem word_pure {s w : ByteArray} (h : w ∈ wordsS s) : PureW w.data.toList := by
  unfold wordsS at h
  obtain ⟨p, hp, rfl⟩ := List.mem_map.1 h
  have hb := spots_bd hp
  have e : (lowS (s.extract p.1 p.2)).data.toList = ((s.data.toList.take p.2).drop p.1).map lowU := by
    unfold lowS; rw [extract_list]
  rw [e]
  refine ⟨fun h0 => ?_, fun c hc => ?_⟩
  · have := congrArg List.length h0
    have hsz : s.size = s.data.toList.length := by simp
    rw [List.length_map, List.length_drop, List.length_take, List.length_nil] at this
    omega
  · obtain ⟨d, hd, rfl⟩ := List.mem_map.1 hc
    obtain ⟨j, hj, h1, h2, rfl⟩ := mem_take_drop hd
    have hj' : j < s.size := by simpa using hj
    have h3 := spots_word hp h1 h2
    rw [wAt_in hj', getB hj'] at h3
    exact ⟨wordC_low _ h3, lowU_idem _⟩
theorem pure_size {w : ByteArray} (h : PureW w.data.toList) : 0 < w.size := by
  have h1 := h.1
  have e : w.size = w.data.toList.length := by simp
  rw [e]
  exact List.length_pos_iff.2 h1
theorem cut_pure {w : ByteArray} (h : PureW w.data.toList) : PureW (cutW w).data.toList := by
  have hs := pure_size h
  have h1 := runeN_pos hs
  have h2 := runeN_le w
  have e : w.size = w.data.toList.length := by simp
  unfold cutW
  rw [extract_list, List.drop_zero]
  refine ⟨fun h0 => ?_, fun c hc => h.2 c (List.mem_of_mem_take hc)⟩
  have := congrArg List.length h0
  rw [List.length_take, List.length_nil] at this
  omega
theorem init_pure {ws : List ByteArray} (h : ∀ w ∈ ws, PureW w.data.toList) : ∀ w ∈ initL ws, PureW w.data.toList := fun w hw => by
  unfold initL chgTo at hw
  rcases List.mem_append.1 hw with h1 | h1
  · obtain ⟨v, hv, rfl⟩ := List.mem_map.1 h1
    exact cut_pure (h v (List.mem_of_mem_take hv))
  · exact h w (List.mem_of_mem_drop h1)
theorem low_pure {w : ByteArray} (h : PureW w.data.toList) : lowS w = w := by
  unfold lowS
  have e : w.data.toList.map lowU = w.data.toList := by
    conv => rhs; rw [← List.map_id w.data.toList]
    exact List.map_congr_left fun c hc => (h.2 c hc).2
  rw [e]
theorem join_one' (x : List UInt8) (sep : List UInt8) : Lib.join [x] sep = x := Lib.join_one x sep
theorem join_two (x y : List UInt8) (t : List (List UInt8)) (sep : List UInt8) : Lib.join (x :: y :: t) sep = x ++ (sep ++ Lib.join (y :: t) sep) := by simp [Lib.join, List.intercalate, List.intersperse]
theorem wAt_list (t : ByteArray) {pre x post : List UInt8} (ht : t.data.toList = pre ++ (x ++ post)) {j : Nat} (h1 : pre.length ≤ j) (h2 : j < pre.length + x.length) : ∃ c ∈ x, wAt t j = wordC c.toNat := by
  have hl : j < t.data.toList.length := by rw [ht, List.length_append, List.length_append]; omega
  have hj : j < t.size := by simpa using hl
  have e : t.data.toList[j]? = x[j - pre.length]? := by
    rw [ht, List.getElem?_append_right h1, List.getElem?_append_left (by omega)]
  rw [List.getElem?_eq_getElem hl, List.getElem?_eq_getElem (by omega)] at e
  refine ⟨x[j - pre.length], List.getElem_mem _, ?_⟩
  rw [wAt_in hj, getB hj, Option.some.inj e]
theorem scan_join (t : ByteArray) : ∀ (ps : List ByteArray) (pre : List UInt8) (acc : List (Nat × Nat)), ps ≠ [] → (∀ p ∈ ps, PureW p.data.toList) → t.data.toList = pre ++ Lib.join (ps.map (·.data.toList)) [32] → scanW t pre.length = (acc, none) →
    ∃ qs, scanW t (t.size + 1) = (acc ++ qs, none) ∧ qs.map (fun p => lowS (t.extract p.1 p.2)) = ps
  | [], _, _, h, _, _, _ => absurd rfl h
  | [p], pre, acc, _, hp, ht, hs => by
    have h1 := hp p (List.mem_singleton.2 rfl)
    have hz := pure_size h1
    have ez : p.size = p.data.toList.length := by simp
    rw [List.map_cons, List.map_nil, join_one'] at ht
    have hT : t.size = pre.length + p.size := by
      have := congrArg List.length ht
      rw [List.length_append] at this
      have e : t.size = t.data.toList.length := by simp
      omega
    have h2 := scanW_run hs (pre.length + p.size) (by omega) (fun j h3 h4 => by
      obtain ⟨c, hc, e⟩ := wAt_list t (post := []) (by rw [List.append_nil]; exact ht) h3 (by omega)
      rw [e]; exact (h1.2 c hc).1)
    rw [← hT] at h2
    refine ⟨[(pre.length, t.size)], scanW_close h2 (wAt_out (by omega)), ?_⟩
    rw [List.map_cons, List.map_nil]
    have e : t.extract pre.length t.size = p := by
      apply ByteArray.ext
      apply Array.toList_inj.1
      rw [extract_list, ht, List.take_of_length_le (by rw [List.length_append]; omega), List.drop_append_of_le_length (Nat.le_refl _), List.drop_length, List.nil_append]
    show [lowS (t.extract pre.length t.size)] = _
    rw [e, low_pure h1]
  | p :: q :: r, pre, acc, _, hp, ht, hs => by
    have h1 := hp p (List.mem_cons_self ..)
    have hz := pure_size h1
    have ez : p.size = p.data.toList.length := by simp
    rw [List.map_cons, List.map_cons, join_two] at ht
    have h2 := scanW_run hs (pre.length + p.size) (by omega) (fun j h3 h4 => by
      obtain ⟨c, hc, e⟩ := wAt_list t ht h3 (by omega)
      rw [e]; exact (h1.2 c hc).1)
    have hb : wAt t (pre.length + p.size) = false := by
      obtain ⟨c, hc, e⟩ := wAt_list t (pre := pre ++ p.data.toList) (x := [32]) (post := Lib.join (q.data.toList :: r.map (·.data.toList)) [32]) (by rw [ht, List.append_assoc]) (j := pre.length + p.size) (by rw [List.length_append]; omega) (by rw [List.length_append]; show _ < _ + 1; omega)
      rw [e, List.mem_singleton.1 hc]; rfl
    have h3 := scanW_close h2 hb
    obtain ⟨qs, h4, h5⟩ := scan_join t (q :: r) (pre ++ p.data.toList ++ [32]) (acc ++ [(pre.length, pre.length + p.size)]) (by simp) (fun x hx => hp x (List.mem_cons_of_mem _ hx)) (by rw [ht, List.map_cons]; simp) (by rw [List.length_append, List.length_append, ← ez]; exact h3)
    refine ⟨(pre.length, pre.length + p.size) :: qs, by rw [h4, List.append_assoc]; rfl, ?_⟩
    rw [List.map_cons, h5]
    have e : t.extract pre.length (pre.length + p.size) = p := by
      apply ByteArray.ext
      apply Array.toList_inj.1
      rw [extract_list, ht, ← List.append_assoc, List.take_append_of_le_length (by rw [List.length_append]; omega), List.take_of_length_le (by rw [List.length_append]; omega), List.drop_append_of_le_length (Nat.le_refl _), List.drop_length, List.nil_append]
    show lowS (t.extract pre.length (pre.length + p.size)) :: _ = _
    rw [e, low_pure h1]
/-- Pure words, joined by blanks, are the words of what comes out. -/
theorem words_join {ps : List ByteArray} (hne : ps ≠ []) (hp : ∀ p ∈ ps, PureW p.data.toList) : wordsS (joinB ps) = ps := by
  obtain ⟨qs, h1, h2⟩ := scan_join (joinB ps) ps [] [] hne hp (by unfold joinB; rw [List.nil_append]) rfl
  unfold wordsS spots
  rw [h1]
  exact h2
theorem words_init {s : ByteArray} (hne : wordsS s ≠ []) : wordsS (joinB (initL (wordsS s))) = initL (wordsS s) :=
  words_join (fun h => hne (List.length_eq_zero_iff.1 (by rw [← initL_length, h]; rfl))) (init_pure fun w hw => word_pure hw)
end Go.Proofs.YthajoedabjfaaaaGreatDoor
