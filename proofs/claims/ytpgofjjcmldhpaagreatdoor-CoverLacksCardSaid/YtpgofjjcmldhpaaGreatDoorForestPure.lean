namespace Go.Proofs.YtpgofjjcmldhpaaGreatDoor.ForestPure
set_option linter.unusedVariables false
variable {K : Type} [DecidableEq K]

/-- The topic with a key. -/
def topicOf (l : List (K × K)) (k : K) : Option (K × K) := l.find? (fun t => decide (t.1 = k))
/-- What stands above a key; e: nothing. -/
def upOf (e : K) (l : List (K × K)) (k : K) : K := match topicOf l k with | some t => t.2 | none => e
/-- A key and those above it, at most n. -/
def aboveN (l : List (K × K)) : Nat → K → List K
  | 0, _ => []
  | n + 1, k => match topicOf l k with | none => [] | some t => k :: aboveN l n t.2
/-- n steps up. -/
def iterUp (e : K) (l : List (K × K)) : Nat → K → K
  | 0, k => k
  | n + 1, k => iterUp e l n (upOf e l k)

theorem topicOf_none {l : List (K × K)} {k : K} : topicOf l k = none ↔ ∀ t ∈ l, t.1 ≠ k := by
  simp [topicOf]
theorem topicOf_some {l : List (K × K)} {k : K} {t : K × K} (h : topicOf l k = some t) : t ∈ l ∧ t.1 = k := by
  unfold topicOf at h
  exact ⟨List.mem_of_find?_eq_some h, by have := List.find?_some h; simpa using this⟩
theorem topicOf_isSome {l : List (K × K)} {k : K} (h : ∃ t ∈ l, t.1 = k) : ∃ t, topicOf l k = some t := by
  cases hh : topicOf l k with
  | some t => exact ⟨t, rfl⟩
  | none => obtain ⟨t, ht, hk⟩ := h; exact absurd hk (topicOf_none.1 hh t ht)

/-- Keys are there once. -/
def Once (l : List (K × K)) : Prop := (l.map (·.1)).Nodup

theorem topicOf_mem {l : List (K × K)} (hn : Once l) {t : K × K} (ht : t ∈ l) : topicOf l t.1 = some t := by
  induction l with
  | nil => cases ht
  | cons x r ih =>
    unfold Once at hn
    rw [List.map_cons, List.nodup_cons] at hn
    unfold topicOf
    rw [List.find?_cons]
    rcases List.mem_cons.1 ht with rfl | ht'
    · simp
    · have hne : x.1 ≠ t.1 := fun h => hn.1 (h ▸ List.mem_map_of_mem ht')
      simp only [decide_eq_false hne]
      exact ih hn.2 ht'

theorem iterUp_succ' (e : K) (l : List (K × K)) (n : Nat) (k : K) : iterUp e l (n + 1) k = upOf e l (iterUp e l n k) := by
  induction n generalizing k with
  | zero => rfl
  | succ n ih => show iterUp e l (n + 1) (upOf e l k) = _; rw [ih]; rfl
theorem iterUp_add (e : K) (l : List (K × K)) (m n : Nat) (k : K) : iterUp e l (m + n) k = iterUp e l n (iterUp e l m k) := by
  induction m generalizing k with
  | zero => simp [iterUp]
  | succ m ih => rw [Nat.succ_add]; show iterUp e l (m + n) (upOf e l k) = _; rw [ih]; rfl

theorem upOf_e {e : K} {l : List (K × K)} (he : ∀ t ∈ l, t.1 ≠ e) : upOf e l e = e := by
  unfold upOf; rw [topicOf_none.2 he]
theorem iterUp_e {e : K} {l : List (K × K)} (he : ∀ t ∈ l, t.1 ≠ e) (n : Nat) : iterUp e l n e = e := by
  induction n with
  | zero => rfl
  | succ n ih => show iterUp e l n (upOf e l e) = e; rw [upOf_e he]; exact ih

/-- A key stands above another one within n steps. -/
theorem mem_aboveN {e : K} {l : List (K × K)} (he : ∀ t ∈ l, t.1 ≠ e) {x : K} (hx : ∃ t ∈ l, t.1 = x) (n : Nat) (k : K) :
    x ∈ aboveN l n k ↔ ∃ j, j < n ∧ iterUp e l j k = x := by
  induction n generalizing k with
  | zero => simp [aboveN]
  | succ n ih =>
    have hxe : x ≠ e := by obtain ⟨t, ht, rfl⟩ := hx; exact he t ht
    cases hk : topicOf l k with
    | none =>
      simp only [aboveN, hk, List.not_mem_nil, false_iff, not_exists, not_and]
      intro j hj hh
      cases j with
      | zero =>
        obtain ⟨t, ht, rfl⟩ := hx
        exact topicOf_none.1 hk t ht hh.symm
      | succ j =>
        have : upOf e l k = e := by unfold upOf; rw [hk]
        rw [iterUp, this, iterUp_e he] at hh
        exact hxe hh.symm
    | some t =>
      have hu : upOf e l k = t.2 := by unfold upOf; rw [hk]
      simp only [aboveN, hk, List.mem_cons, ih]
      constructor
      · rintro (rfl | ⟨j, hj, hh⟩)
        · exact ⟨0, by omega, rfl⟩
        · exact ⟨j + 1, by omega, by rw [iterUp, hu]; exact hh⟩
      · rintro ⟨j, hj, hh⟩
        cases j with
        | zero => exact .inl hh.symm
        | succ j => rw [iterUp, hu] at hh; exact .inr ⟨j, by omega, hh⟩

/-- Every one above is a topic, or nothing. -/
def Closed (e : K) (l : List (K × K)) : Prop := ∀ t ∈ l, t.2 = e ∨ ∃ t' ∈ l, t'.1 = t.2
/-- Nobody comes back to itself. -/
def NoLoop (e : K) (l : List (K × K)) : Prop := ∀ t ∈ l, ∀ j, j < l.length → iterUp e l j t.2 ≠ t.1

theorem iter_mem {e : K} {l : List (K × K)} (hc : Closed e l) {k : K} (hk : ∃ t ∈ l, t.1 = k) (n : Nat) : iterUp e l n k = e ∨ ∃ t ∈ l, t.1 = iterUp e l n k := by
  induction n with
  | zero => exact .inr hk
  | succ n ih =>
    rw [iterUp_succ']
    rcases ih with h | h
    · rw [h]
      unfold upOf
      cases ht : topicOf l e with
      | none => exact .inl rfl
      | some t => exact hc t (topicOf_some ht).1
    · obtain ⟨t, ht⟩ := topicOf_isSome h
      unfold upOf
      rw [ht]
      exact hc t (topicOf_some ht).1

theorem nodup_map_inj {α : Type} (f : Nat → α) (n : Nat) (h : ∀ i j, i < j → j < n → f i ≠ f j) : ((List.range n).map f).Nodup := by
  rw [List.Nodup, List.pairwise_map]
  refine List.Pairwise.imp_of_mem ?_ (List.pairwise_lt_range (n := n))
  intro a b ha hb hlt
  exact h a b hlt (List.mem_range.1 hb)

/-- The way up ends. -/
theorem ends {e : K} {l : List (K × K)} (he : ∀ t ∈ l, t.1 ≠ e) (hc : Closed e l) (hn : NoLoop e l) (h1 : Once l) {k : K} (hk : ∃ t ∈ l, t.1 = k) :
    ∃ m, m ≤ l.length ∧ iterUp e l m k = e := by
  refine Classical.byContradiction fun hno => ?_
  have hall : ∀ m, m ≤ l.length → ∃ t ∈ l, t.1 = iterUp e l m k := fun m hm => by
    rcases iter_mem hc hk m with h | h
    · exact absurd ⟨m, hm, h⟩ hno
    · exact h
  have hinj : ∀ i j, i < j → j < l.length + 1 → iterUp e l i k ≠ iterUp e l j k := by
    intro i j hij hj heq
    obtain ⟨t, ht, htk⟩ := hall i (by omega)
    refine hn t ht (j - i - 1) (by omega) ?_
    have h2 : iterUp e l (j - i) (iterUp e l i k) = iterUp e l j k := by rw [← iterUp_add]; congr 1; omega
    rw [← htk, show j - i = (j - i - 1) + 1 from by omega, iterUp] at h2
    have hu : upOf e l t.1 = t.2 := by unfold upOf; rw [topicOf_mem h1 ht]
    rw [hu] at h2
    rw [h2, ← heq, htk]
  have hnd := nodup_map_inj (fun m => iterUp e l m k) (l.length + 1) hinj
  have hlen := hnd.length_le_of_subset (l₂ := l.map (·.1)) (by
    intro x hx
    obtain ⟨m, hm, rfl⟩ := List.mem_map.1 hx
    obtain ⟨t, ht, htk⟩ := hall m (by have := List.mem_range.1 hm; omega)
    exact List.mem_map.2 ⟨t, ht, htk⟩)
  simp only [List.length_map, List.length_range] at hlen
  omega

/-- What is collected on the way up. -/
theorem aboveN_range {e : K} {l : List (K × K)} (he : ∀ t ∈ l, t.1 ≠ e) (hc : Closed e l) {k : K} (hk : ∃ t ∈ l, t.1 = k) (m : Nat) (hm : iterUp e l m k = e) (hlt : ∀ j, j < m → iterUp e l j k ≠ e) (n : Nat) (hn : m ≤ n) :
    aboveN l n k = (List.range m).map (fun j => iterUp e l j k) := by
  induction m generalizing k n with
  | zero =>
    obtain ⟨t, ht, rfl⟩ := hk
    exact absurd hm (he t ht)
  | succ m ih =>
    obtain ⟨n', rfl⟩ : ∃ n', n = n' + 1 := ⟨n - 1, by omega⟩
    obtain ⟨t, ht⟩ := topicOf_isSome hk
    have hu : upOf e l k = t.2 := by unfold upOf; rw [ht]
    rw [List.range_succ_eq_map, List.map_cons, List.map_map]
    simp only [aboveN, ht]
    congr 1
    rw [iterUp, hu] at hm
    cases m with
    | zero =>
      have : t.2 = e := hm
      rw [this]
      simp
      cases n' with
      | zero => rfl
      | succ n' => simp [aboveN, topicOf_none.2 he]
    | succ m =>
      have h2 : ∃ t' ∈ l, t'.1 = t.2 := by
        rcases hc t (topicOf_some ht).1 with h | h
        · exfalso
          refine hlt 1 (by omega) ?_
          show upOf e l k = e
          rw [hu, h]
        · exact h
      rw [ih h2 hm (fun j hj => by have := hlt (j + 1) (by omega); rwa [iterUp, hu] at this) n' (by omega)]
      apply List.map_congr_left
      intro j _
      show iterUp e l j t.2 = iterUp e l j (upOf e l k)
      rw [hu]
end Go.Proofs.YtpgofjjcmldhpaaGreatDoor.ForestPure
