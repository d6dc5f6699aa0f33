/- Agreement: the plain laws. -/
import Derived.Test.YtcjcdbhobehlpaaGreatDoorScore
import Derived.Test.YtcjcdbhobehlpaaGreatDoorLowP
import Derived.Test.YtcjcdbhobehlpaaGreatDoorRegF
/-! Agreement: the plain laws. -/
namespace Go.Proofs.YtcjcdbhobehlpaaGreatDoor
open Go.RowKit Go.Sort
set_option linter.unusedVariables false
set_option linter.unusedSimpArgs false

/-- The marks of a paper. -/
abbrev ofP (l : List Mark) (p : ByteArray) : List Mark := sel (fun x => x.1) p l
theorem cnt_sel (l : List Mark) (k : Nat) (hk : k < l.length) : cntM l k = ((ofP (l.take (k + 1)) l[k].1).length : Nat) := by
  unfold cntM ofP sel
  rw [List.countP_eq_length_filter]
  congr 2
  apply List.filter_congr
  intro x _
  rw [List.getElem?_eq_getElem hk]
  simp
theorem paper_few {l : List Mark} (h : marksFault l = 0) (p : ByteArray) : (ofP l p).length ≤ 12 := by
  have key : ∀ k, k ≤ l.length → (ofP (l.take k) p).length ≤ 12 := by
    intro k
    induction k with
    | zero => intro _; simp [ofP, sel]
    | succ k ih =>
      intro hk
      have hkl : k < l.length := by omega
      have htake := List.take_succ_eq_append_getElem hkl
      have hs := sel_snoc (fun x => x.1) p (l.take k) l[k]
      rw [← htake] at hs
      unfold ofP at *
      by_cases hp : l[k].1 = p
      · have hc := cnt_sel l k hkl
        unfold marksFault at h
        split at h
        · cases h
        · have h1 := firstErr_all h k hkl
          unfold markE at h1
          rw [List.getElem?_eq_getElem hkl] at h1
          simp only at h1
          split at h1
          · cases h1
          · split at h1
            · cases h1
            · split at h1
              · cases h1
              · split at h1
                · cases h1
                · rename_i h2
                  rw [hc, hp] at h2
                  unfold ofP at h2
                  omega
      · rw [hs, if_neg hp]; exact ih (by omega)
  have := key l.length (Nat.le_refl _)
  rwa [List.take_length] at this
/-- The squares of all differences. -/
def apartI (ms : List Mark) : Int := 2 * ((ms.length : Int) * sum2 ms - sum1 ms * sum1 ms)
theorem dif2_bdM {t : List Int} (ht : okI t) (M : Int) (hM : 100 * (t.length : Int) ≤ M) : ∀ {u : List Int}, okI u → 0 ≤ dif2 u t ∧ dif2 u t ≤ M * u.length
  | [], _ => by simp [dif2]
  | a :: r, h => by
    have ih := dif2_bdM ht M hM (u := r) (fun y hy => h y (by simp [hy]))
    have hb := dif1_bd (h a (by simp)) ht
    have e1 : dif2 (a :: r) t = dif1 a t + dif2 r t := by unfold dif2; rw [List.map_cons, List.sum_cons]
    rw [e1, List.length_cons, Int.natCast_add, Int.mul_add]
    simp only [Int.natCast_one, Int.mul_one]
    omega
theorem apartI_bd {ms : List Mark} (h : okScores ms) (M : Int) (hM : 100 * (ms.length : Int) ≤ M) : 0 ≤ apartI ms ∧ apartI ms ≤ M * ms.length := by
  have hs := okI_sort (okI_scL h)
  have hl : (sortI (scL ms)).length = ms.length := by rw [sortI_length]; unfold scL; rw [List.length_map]
  have := dif2_bdM hs M (by rw [hl]; exact hM) hs
  rw [dif2_sort, hl] at this
  exact this
/-- One paper more. -/
def wStep (l : List Mark) (acc : Int × Int) (p : ByteArray) : Int × Int :=
  if 1 < (ofP l p).length then
    (lowN (acc.1 * lowD (apartI (ofP l p)) ((ofP l p).length - 1) + lowN (apartI (ofP l p)) ((ofP l p).length - 1) * acc.2) (acc.2 * lowD (apartI (ofP l p)) ((ofP l p).length - 1)),
     lowD (acc.1 * lowD (apartI (ofP l p)) ((ofP l p).length - 1) + lowN (apartI (ofP l p)) ((ofP l p).length - 1) * acc.2) (acc.2 * lowD (apartI (ofP l p)) ((ofP l p).length - 1)))
  else acc
/-- What differs within papers. -/
def within (l : List Mark) (ks : List ByteArray) : Int × Int := ks.foldl (wStep l) (0, 1)
theorem within_snoc (l : List Mark) (ks : List ByteArray) (p : ByteArray) : within l (ks ++ [p]) = wStep l (within l ks) p := by unfold within; rw [List.foldl_append]; rfl
theorem small_dvd12 (n : Int) (h1 : 1 ≤ n) (h2 : n ≤ 12) : n ∣ 27720 := by
  have : n = 1 ∨ n = 2 ∨ n = 3 ∨ n = 4 ∨ n = 5 ∨ n = 6 ∨ n = 7 ∨ n = 8 ∨ n = 9 ∨ n = 10 ∨ n = 11 ∨ n = 12 := by omega
  rcases this with rfl | rfl | rfl | rfl | rfl | rfl | rfl | rfl | rfl | rfl | rfl | rfl <;> decide
theorem paper_part {l : List Mark} (h : marksFault l = 0) (p : ByteArray) (h1 : 1 < (ofP l p).length) :
    0 ≤ lowN (apartI (ofP l p)) ((ofP l p).length - 1) ∧ 1 ≤ lowD (apartI (ofP l p)) ((ofP l p).length - 1) ∧ lowD (apartI (ofP l p)) ((ofP l p).length - 1) ≤ 12 ∧ lowD (apartI (ofP l p)) ((ofP l p).length - 1) ∣ 27720 ∧ lowN (apartI (ofP l p)) ((ofP l p).length - 1) ≤ 14400 * lowD (apartI (ofP l p)) ((ofP l p).length - 1) ∧ lowN (apartI (ofP l p)) ((ofP l p).length - 1) ≤ 14400 := by
  have h12 := paper_few h p
  have hb := apartI_bd (okScores_sel (f := fun x => x.1) (p := p) (fault_scores h)) 1200 (by have : (sel (fun x => x.1) p l).length ≤ 12 := h12; omega)
  have hn : 1 ≤ (((ofP l p).length : Int) - 1) := by omega
  have hub : apartI (ofP l p) ≤ 14400 := by have := hb.2; unfold ofP at *; omega
  have hd := lowD_bd (apartI (ofP l p)) _ hn
  have hnb := lowN_bd (apartI (ofP l p)) _ hb.1 hn
  refine ⟨hnb.1, hd.1, by omega, small_dvd12 _ hd.1 (by omega), low_le _ _ _ hb.1 hn ?_, by omega⟩
  have : 14400 * 1 ≤ 14400 * (((ofP l p).length : Int) - 1) := Int.mul_le_mul_of_nonneg_left hn (by omega)
  omega
theorem within_fit {l : List Mark} (h : marksFault l = 0) : ∀ (n : Nat) (ks : List ByteArray), ks.length = n → 0 ≤ (within l ks).1 ∧ 1 ≤ (within l ks).2 ∧ (within l ks).2 ∣ 27720 ∧ (within l ks).1 ≤ (14400 * (n : Int)) * (within l ks).2
  | 0, ks, hn => by
    have : ks = [] := List.length_eq_zero_iff.1 hn
    subst this
    simp [within]
  | n + 1, ks, hn => by
    obtain ⟨ks', p, rfl⟩ : ∃ ks' p, ks = ks' ++ [p] := by
      have hne : ks ≠ [] := by intro e; simp [e] at hn
      exact ⟨ks.dropLast, ks.getLast hne, (List.dropLast_concat_getLast hne).symm⟩
    have ih := within_fit h n ks' (by simpa using hn)
    rw [within_snoc]
    unfold wStep
    by_cases h1 : 1 < (ofP l p).length
    · rw [if_pos h1]
      have hp := paper_part h p h1
      have hk := sum_keeps (within l ks').1 (within l ks').2 _ _ 27720 (14400 * (n : Int)) 14400 ih.1 ih.2.1 hp.1 hp.2.1 ih.2.2.1 hp.2.2.2.1 ih.2.2.2 hp.2.2.2.2.1
      refine ⟨hk.2.1, hk.2.2.2, hk.1, ?_⟩
      have e : (14400 * ((n + 1 : Nat) : Int)) = 14400 * (n : Int) + 14400 := by omega
      rw [e]
      exact hk.2.2.1
    · rw [if_neg h1]
      refine ⟨ih.1, ih.2.1, ih.2.2.1, Int.le_trans ih.2.2.2 ?_⟩
      exact Int.mul_le_mul_of_nonneg_right (by omega) (by omega)
/-- All marks of papers with two or more. -/
def bigs (l : List Mark) (ks : List ByteArray) : List Mark := ks.flatMap (fun p => if 1 < (ofP l p).length then ofP l p else [])
theorem bigs_snoc (l : List Mark) (ks : List ByteArray) (p : ByteArray) : bigs l (ks ++ [p]) = bigs l ks ++ (if 1 < (ofP l p).length then ofP l p else []) := by unfold bigs; rw [List.flatMap_append]; simp
theorem bigs_ok {l : List Mark} (h : okScores l) (ks : List ByteArray) : okScores (bigs l ks) := fun x hx => by
  obtain ⟨p, _, hp⟩ := List.mem_flatMap.1 hx
  split at hp
  · exact okScores_sel h x hp
  · cases hp
theorem ofP_mem {l : List Mark} {p : ByteArray} {x : Mark} : x ∈ ofP l p ↔ x ∈ l ∧ x.1 = p := by unfold ofP sel; rw [List.mem_filter]; simp
theorem bigs_len {l : List Mark} : ∀ (ks : List ByteArray), ks.Nodup → (bigs l ks).length ≤ (l.filter (fun x => ks.any (fun y => decide (y = x.1)))).length
  | [], _ => by simp [bigs]
  | p :: r, hn => by
    rw [List.nodup_cons] at hn
    have ih := bigs_len (l := l) r hn.2
    have e : bigs l (p :: r) = (if 1 < (ofP l p).length then ofP l p else []) ++ bigs l r := by unfold bigs; rw [List.flatMap_cons]
    rw [e, List.length_append]
    have h1 : (if 1 < (ofP l p).length then ofP l p else []).length ≤ (ofP l p).length := by split <;> simp
    have h2 : ∀ m : List Mark, (sel (fun x => x.1) p m).length + (m.filter (fun x => r.any (fun y => decide (y = x.1)))).length ≤ (m.filter (fun x => (p :: r).any (fun y => decide (y = x.1)))).length := by
      intro m
      induction m with
      | nil => simp [sel]
      | cons x m ihm =>
        unfold sel at *
        simp only [List.filter_cons, List.any_cons]
        by_cases hx : x.1 = p
        · have hr : r.any (fun y => decide (y = x.1)) = false := by
            rw [List.any_eq_false]; intro y hy; simp; rintro rfl; exact hn.1 (hx ▸ hy)
          have hp1 : decide (p = x.1) = true := by simp [hx]
          have hp2 : decide (x.1 = p) = true := by simp [hx]
          simp only [List.any_cons] at ihm
          rw [if_pos hp2, if_neg (by rw [hr]; simp), if_pos (by rw [hp1]; rfl)]
          simp only [List.length_cons]
          omega
        · have hx' : ¬ p = x.1 := fun h => hx h.symm
          simp only [List.any_cons] at ihm
          simp only [hx, hx', decide_false, Bool.false_or]
          cases r.any (fun y => decide (y = x.1))
          · simpa using ihm
          · simp; omega
    have h3 := h2 l
    unfold ofP at *
    omega
theorem bigs_le {l : List Mark} (ks : List ByteArray) (hn : ks.Nodup) : (bigs l ks).length ≤ l.length := Nat.le_trans (bigs_len ks hn) (List.length_filter_le _ _)
/-- The agreement. -/
def agN (l : List Mark) (ks : List ByteArray) : Int := if apartI (bigs l ks) = 0 then 1 else lowN ((within l ks).2 * apartI (bigs l ks) - ((bigs l ks).length - 1) * (within l ks).1) ((within l ks).2 * apartI (bigs l ks))
def agD (l : List Mark) (ks : List ByteArray) : Int := if apartI (bigs l ks) = 0 then 1 else lowD ((within l ks).2 * apartI (bigs l ks) - ((bigs l ks).length - 1) * (within l ks).1) ((within l ks).2 * apartI (bigs l ks))
theorem ag_law (N D n d w1 w2 f1 f2 : Int) (hD : 1 ≤ D) (hd : 1 ≤ d) (hw : w2 = lowD (N * (n - 1)) D) (hw1 : w1 = lowN (N * (n - 1)) D) (hf1 : f1 = lowN w1 d) (hf2 : f2 = lowD w1 d) :
    lowN (f2 * w2 - f1) (f2 * w2) = lowN (D * d - (n - 1) * N) (D * d) ∧ lowD (f2 * w2 - f1) (f2 * w2) = lowD (D * d - (n - 1) * N) (D * d) := by
  have c1 := low_cross (N * (n - 1)) D hD
  have c2 := low_cross w1 d hd
  have b1 := (lowD_bd (N * (n - 1)) D hD).1
  have b2 := (lowD_bd w1 d hd).1
  rw [← hw1, ← hw] at c1
  rw [← hf1, ← hf2] at c2
  rw [← hw] at b1
  rw [← hf2] at b2
  refine low_same _ _ _ _ (mul_pos _ _ b2 b1) (mul_pos _ _ hD hd) ?_
  have e : f1 * D * d = (n - 1) * N * (f2 * w2) := by
    have : f1 * d * D = w1 * D * f2 := by rw [c2]; rw [Int.mul_assoc, Int.mul_assoc, Int.mul_comm f2 D]
    rw [c1] at this
    have e1 : f1 * D * d = f1 * d * D := by rw [Int.mul_assoc, Int.mul_comm D d, ← Int.mul_assoc]
    rw [e1, this]
    rw [Int.mul_comm N (n - 1), Int.mul_assoc, Int.mul_comm w2 f2]
  rw [Int.sub_mul, Int.sub_mul]
  have e2 : f2 * w2 * (D * d) = D * d * (f2 * w2) := Int.mul_comm _ _
  have e3 : f1 * (D * d) = f1 * D * d := by rw [Int.mul_assoc]
  rw [e2, e3, e]
end Go.Proofs.YtcjcdbhobehlpaaGreatDoor

/-! Agreement of the program: apart, plus, zero, one, Agreement. -/
namespace Go.Proofs.YtcjcdbhobehlpaaGreatDoor
open Go.RowKit Go.Sort
set_option linter.unusedVariables false
set_option linter.unusedSimpArgs false

/-- append(s, t...): the elements of another slice. -/
theorem wpList_append_all {α : Type} [Cel α] {w : World} {base : Nat} {P : Program} {ops : Array Oper} {rest : List Oper} {o : Oper} {a : Act} {Q : Exit → Act → World → Prop} (hgd : o.guard = none) (s x : Operand) (t : TypeId)
    (ho : o.op = .call { callee := .builtin .append, args := #[s, x], argTypes := #[t, t] }) (E bytes : Nat) (z : Value) (ht : P.underlying t = some (.slice E))
    (hE : (P.info? E).map (fun i => (i.zero, i.size, i.bytes)) = some (some z, Cel.k α, bytes)) (hzs : z.cells.size = Cel.k α)
    (v : Value) (l : List α) (hs : a.eval s = v) (hown : Own base E w v l) (m : List α) (av : Option Addr) (cap : Nat) (hx : a.eval x = .slice av m.length cap) (hsa : SA w av m) (hm : m ≠ [])
    (hlen : (l.length + m.length) * bytes ≤ 140737488355328) (hmax : l.length + m.length ≤ 1000000000000) (hbase : base ≤ w.heap.size)
    (h : ∀ a' cap' w', Own base E w' (.slice a' (l ++ m).length cap') (l ++ m) → w.grownBy w' v.ownBlock → wpList P ops Q rest (a.put o.dst (.slice a' (l ++ m).length cap')) w') : wpList P ops Q (o :: rest) a w := by
  obtain ⟨i0, hi, hz0, hz1, hz2⟩ := info_parts hE
  rcases hsa with hm' | ⟨b, off, rfl, harr⟩
  · exact absurd hm' hm
  · have hfl : (m.flatMap Cel.cells).length = m.length * Cel.k α := by
      clear harr hx hlen hmax h hm
      induction m with
      | nil => simp
      | cons y r ih => rw [List.flatMap_cons, List.length_append, ih, Cel.len, List.length_cons, Nat.add_mul]; omega
    refine wpList_append_own w hgd s x t ho base E i0 z (Cel.k α) bytes ht hi hz0 hz1 hz2 hzs Cel.pos v l.length (l.flatMap Cel.cells) hs hown ⟨b, off, none⟩ m.length cap (m.flatMap Cel.cells) hx hfl ?_ ?_ (by unfold maxLen; omega) hlen hbase ?_
    · intro j u hu
      have hj : j < m.length * Cel.k α := by rw [← hfl]; exact (List.getElem?_eq_some_iff.1 hu).1
      have hk := Cel.pos (α := α)
      have hi1 : j / Cel.k α < m.length := Nat.div_lt_of_lt_mul (by rw [Nat.mul_comm]; exact hj)
      have hj1 : j % Cel.k α < Cel.k α := Nat.mod_lt _ hk
      have e : j / Cel.k α * Cel.k α + j % Cel.k α = j := by rw [Nat.mul_comm]; exact Nat.div_add_mod j (Cel.k α)
      have h1 := harr (j / Cel.k α) (j % Cel.k α) _ (List.getElem?_eq_getElem hi1) hj1
      have h2 := flat_get m (j / Cel.k α) (j % Cel.k α) _ (List.getElem?_eq_getElem hi1) hj1
      rw [e] at h1 h2
      rw [show (Addr.add ⟨b, off, none⟩ j : Addr) = ⟨b, off + j, none⟩ from by unfold Addr.add; split <;> simp_all]
      rw [h1, ← h2, hu]
    · intro u hu
      obtain ⟨y, _, hy⟩ := List.mem_flatMap.1 hu
      exact Cel.one y u hy
    · intro v' w' h1 h2 _
      have h3 : Own base E w' v' (l ++ m) := by
        unfold Own
        rw [List.length_append, List.flatMap_append]
        exact h1
      obtain ⟨a', cap', rfl, _⟩ := h3.sa
      exact h a' cap' w' h3 h2

end Go.Proofs.YtcjcdbhobehlpaaGreatDoor

/-! Agreement of the program, walked. -/
namespace Go.Proofs.YtcjcdbhobehlpaaGreatDoor
open Go.RowKit Go.Sort
set_option linter.unusedVariables false
set_option linter.unusedSimpArgs false

theorem SA.grownT {α : Type} [Cel α] {w w' : World} {a : Option Addr} {l : List α} {row : Option Nat} (h : SA w a l) (hg : w.grownBy w' row) (hne : ∀ x, a = some x → some x.block ≠ row) : SA w' a l := by
  rcases h with h | ⟨b, off, rfl, h⟩
  · exact .inl h
  · by_cases hl : l = []
    · exact .inl hl
    · exact .inr ⟨b, off, rfl, h.same (hg.block b (h.lt hl) (hne _ rfl))⟩
theorem SA.putOther {α : Type} [Cel α] {w : World} {a : Option Addr} {l : List α} (h : SA w a l) {p : Addr} (hp : ∀ x : Addr, a = some x → x.block ≠ p.block) (v : Value) : SA (w.setCell p v) a l := by
  rcases h with h | ⟨b, off, rfl, h⟩
  · exact .inl h
  · exact .inr ⟨b, off, rfl, h.same (Below.heap_setCell _ _ _ _ (hp _ rfl))⟩
theorem within_bd {l : List Mark} (h : marksFault l = 0) (ks : List ByteArray) (hk : ks.length ≤ 400) : 0 ≤ (within l ks).1 ∧ (within l ks).1 ≤ 160000000000 ∧ 1 ≤ (within l ks).2 ∧ (within l ks).2 ≤ 27720 := by
  have hf := within_fit h ks.length ks rfl
  have hd := Int.le_of_dvd (by decide) hf.2.2.1
  refine ⟨hf.1, ?_, hf.2.1, hd⟩
  have h1 : (14400 * (ks.length : Int)) * (within l ks).2 ≤ 5760000 * 27720 := Int.mul_le_mul (by omega) hd (by omega) (by omega)
  have := hf.2.2.2
  omega

end Go.Proofs.YtcjcdbhobehlpaaGreatDoor
