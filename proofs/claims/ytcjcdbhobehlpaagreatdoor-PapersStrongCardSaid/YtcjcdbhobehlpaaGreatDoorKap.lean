/- Kappa: the plain laws. -/
import Derived.Test.YtcjcdbhobehlpaaGreatDoorAgree
import Derived.Test.YtcjcdbhobehlpaaGreatDoorPart
/-! Kappa: the plain laws. -/
namespace Go.Proofs.YtcjcdbhobehlpaaGreatDoor
open Go.RowKit Go.Sort
set_option linter.unusedVariables false
set_option linter.unusedSimpArgs false

/-- Marks are ordered by paper, then by person. -/
def ltP (x y : Mark) : Prop := ltS x.1 y.1 ∨ (x.1 = y.1 ∧ ltS x.2.1 y.2.1)
theorem cmpP_lt {x y : Mark} : cmpP x y < 0 ↔ ltP x y := by
 unfold cmpP ltP
 by_cases h : cmpS x.1 y.1 = 0
 ·
  rw [if_neg (by simpa using h), cmpS_lt]
  have he := cmpS_zero.1 h
  constructor
  ·
   intro k; exact .inr ⟨he, k⟩
  ·
   rintro (k | k)
   ·
    rw [he] at k; exact absurd k (ltS_irrefl _)
   ·
    exact k.2
 ·
  rw [if_pos h, cmpS_lt]
  constructor
  ·
   exact .inl
  ·
   rintro (k | k)
   ·
    exact k
   ·
    exact absurd (cmpS_zero.2 k.1) h
theorem ltP_trans {x y z : Mark} : ltP x y → ltP y z → ltP x z := by
 rintro (a | ⟨a, b⟩) (c | ⟨c, d⟩)
 ·
  exact .inl (ltS_trans a c)
 ·
  exact .inl (c ▸ a)
 ·
  exact .inl (a ▸ c)
 ·
  exact .inr ⟨a.trans c, ltS_trans b d⟩
theorem ltP_ne {x y : Mark} (h : ltP x y) (h1 : x.1 = y.1) (h2 : x.2.1 = y.2.1) : False := by
 rcases h with h | h
 ·
  rw [h1] at h; exact ltS_irrefl _ h
 ·
  rw [h2] at h; exact ltS_irrefl _ h.2
theorem fault_ord {l : List Mark} (h : marksFault l = 0) (i : Nat) (hi : i < l.length) : badOrd l i = false := by
 unfold marksFault at h
 split at h
 ·
  cases h
 ·
  exact markE_ord hi (firstErr_all h i hi)
theorem fault_rise {l : List Mark} (h : marksFault l = 0) : l.Pairwise ltP := by
 rw [List.pairwise_iff_getElem]
 intro i j hi hj hij
 induction j with
 | zero => omega
 | succ p ih =>
  have hb := fault_ord h (p + 1) hj
  rw [badOrd, List.getElem?_eq_getElem (show p < l.length by omega), List.getElem?_eq_getElem hj] at hb
  simp only [decide_eq_false_iff_not, Int.not_le] at hb
  have hs := cmpP_lt.1 hb
  by_cases hip : i = p
  ·
   subst hip; exact hs
  ·
   exact ltP_trans (ih (by omega) (by omega)) hs
theorem fault_same {l : List Mark} (h : marksFault l = 0) {x y : Mark} (hx : x ∈ l) (hy : y ∈ l) (h1 : x.1 = y.1) (h2 : x.2.1 = y.2.1) : x = y := by
 have hp := List.pairwise_iff_getElem.1 (fault_rise h)
 obtain ⟨i, hi, rfl⟩ := List.mem_iff_getElem.1 hx
 obtain ⟨j, hj, rfl⟩ := List.mem_iff_getElem.1 hy
 rcases Nat.lt_trichotomy i j with k | k | k
 ·
  exact absurd (hp i j hi hj k) (fun h => ltP_ne h h1 h2)
 ·
  subst k; rfl
 ·
  exact absurd (hp j i hj hi k) (fun h => ltP_ne h h1.symm h2.symm)

/-- The score of a pair. -/
def scOf (l : List Mark) (p h : ByteArray) : Option Int := (l.find? (fun m => decide (m.1 = p) && decide (m.2.1 = h))).map (fun m => m.2.2)
/-- The map of scores that marks make. -/
def scE (ms : List Mark) : List (ByteArray × Value) := ms.foldl (fun es m => mput es m.1 (.int .i64 m.2.2)) []
theorem scE_snoc (ms : List Mark) (x : Mark) : scE (ms ++ [x]) = mput (scE ms) x.1 (.int .i64 x.2.2) := by unfold scE; rw [List.foldl_append]; rfl
theorem scE_nodupG : ∀ (ms : List Mark) (es : List (ByteArray × Value)), (es.map (·.1)).Nodup → ((ms.foldl (fun es m => mput es m.1 (.int .i64 m.2.2)) es).map (·.1)).Nodup
 | [], es, h => h
 | x :: r, es, h => by rw [List.foldl_cons]; exact scE_nodupG r _ (mput_nodup _ _ _ h)
theorem scE_nodup (ms : List Mark) : ((scE ms).map (·.1)).Nodup := scE_nodupG ms [] (by simp)
theorem scE_keysG (p : ByteArray) : ∀ (ms : List Mark) (es : List (ByteArray × Value)), p ∈ (ms.foldl (fun es m => mput es m.1 (.int .i64 m.2.2)) es).map (·.1) ↔ (∃ x ∈ ms, x.1 = p) ∨ p ∈ es.map (·.1)
 | [], es => by simp
 | x :: r, es => by
  rw [List.foldl_cons, scE_keysG p r, mput_keys]
  constructor
  ·
   rintro (⟨y, hy, rfl⟩ | rfl | h)
   ·
    exact .inl ⟨y, by simp [hy], rfl⟩
   ·
    exact .inl ⟨x, by simp, rfl⟩
   ·
    exact .inr h
  ·
   rintro (⟨y, hy, rfl⟩ | h)
   ·
    rcases List.mem_cons.1 hy with rfl | hy
    ·
     exact .inr (.inl rfl)
    ·
     exact .inl ⟨y, hy, rfl⟩
   ·
    exact .inr (.inr h)
theorem scE_keys (ms : List Mark) (p : ByteArray) : p ∈ (scE ms).map (·.1) ↔ ∃ x ∈ ms, x.1 = p := by
 unfold scE; rw [scE_keysG]; simp
theorem scE_getG (p : ByteArray) : ∀ (ms : List Mark) (es : List (ByteArray × Value)), (ms.map (fun m => m.1)).Nodup →
  mget (ms.foldl (fun es m => mput es m.1 (.int .i64 m.2.2)) es) p = (match ms.find? (fun m => decide (m.1 = p)) with | some m => some (.int .i64 m.2.2) | none => mget es p)
 | [], es, _ => rfl
 | x :: r, es, h => by
  rw [List.map_cons, List.nodup_cons] at h
  rw [List.foldl_cons, scE_getG p r _ h.2, List.find?_cons, mget_mput]
  by_cases hx : x.1 = p
  ·
   have hn : r.find? (fun m => decide (m.1 = p)) = none := by
    rw [List.find?_eq_none]
    intro y hy e
    exact h.1 (List.mem_map.2 ⟨y, hy, by rw [hx]; simpa using e⟩)
   rw [hn]
   simp [hx]
  ·
   simp [hx]
theorem sel_papers {l : List Mark} (h : marksFault l = 0) (a : ByteArray) : ((sel (fun x => x.2.1) a l).map (fun m => m.1)).Nodup := by
 unfold sel
 have h1 := (fault_rise h).filter (fun x => decide (x.2.1 = a))
 have h2 : (l.filter (fun x => decide (x.2.1 = a))).Pairwise (fun x y => x.1 ≠ y.1) := by
  refine List.Pairwise.imp_of_mem ?_ h1
  intro x y hx hy hlt e
  have ex := (List.mem_filter.1 hx).2
  have ey := (List.mem_filter.1 hy).2
  simp at ex ey
  exact ltP_ne hlt e (ex.trans ey.symm)
 exact List.pairwise_map.2 h2
theorem scE_get {l : List Mark} (h : marksFault l = 0) (a p : ByteArray) : mget (scE (sel (fun x => x.2.1) a l)) p = (scOf l p a).map (Value.int .i64) := by
 unfold scE
 rw [scE_getG p _ _ (sel_papers h a)]
 unfold scOf sel
 rw [List.find?_filter]
 have e : (fun m : Mark => decide (decide (m.2.1 = a) = true ∧ decide (m.1 = p) = true)) = (fun m => decide (m.1 = p) && decide (m.2.1 = a)) := by funext m; rw [Bool.eq_iff_iff]; simp [and_comm]
 rw [e]
 cases l.find? (fun m => decide (m.1 = p) && decide (m.2.1 = a)) <;> rfl
theorem scOf_mem {l : List Mark} (h : marksFault l = 0) {x : Mark} (hx : x ∈ l) : scOf l x.1 x.2.1 = some x.2.2 := by
 unfold scOf
 cases hf : l.find? (fun m => decide (m.1 = x.1) && decide (m.2.1 = x.2.1)) with
 | none =>
  rw [List.find?_eq_none] at hf
  exact absurd (by simp) (hf x hx)
 | some y =>
  have h1 := List.find?_some hf
  have h2 := List.mem_of_find?_eq_some hf
  simp at h1
  rw [fault_same h h2 hx h1.1 h1.2]; rfl
theorem scOf_some {l : List Mark} {p a : ByteArray} {n : Int} (h : scOf l p a = some n) : (p, a, n) ∈ l := by
 unfold scOf at h
 rw [Option.map_eq_some_iff] at h
 obtain ⟨m, hm, rfl⟩ := h
 have h1 := List.find?_some hm
 have h2 := List.mem_of_find?_eq_some hm
 simp at h1
 obtain ⟨rfl, rfl⟩ := h1
 exact h2
theorem scOf_bd {l : List Mark} (hok : okScores l) {p a : ByteArray} {n : Int} (h : scOf l p a = some n) : 0 ≤ n ∧ n ≤ 10 := hok _ (scOf_some h)

/-- The scores of two persons at a paper. -/
def bothOf (l : List Mark) (a b p : ByteArray) : Option (Int × Int) :=
 match scOf l p a, scOf l p b with
 | some i, some k => some (i, k)
 | _, _ => none
def kap (l : List Mark) (a b : ByteArray) (ps : List ByteArray) : List (Int × Int) := ps.filterMap (bothOf l a b)
theorem kap_snoc (l : List Mark) (a b : ByteArray) (ps : List ByteArray) (p : ByteArray) : kap l a b (ps ++ [p]) = kap l a b ps ++ (match bothOf l a b p with | some q => [q] | none => []) := by
 unfold kap
 rw [List.filterMap_append, List.filterMap_cons]
 cases bothOf l a b p <;> rfl
theorem kap_len (l : List Mark) (a b : ByteArray) (ps : List ByteArray) : (kap l a b ps).length ≤ ps.length := List.length_filterMap_le _ _
theorem kap_ok {l : List Mark} (hok : okScores l) (a b : ByteArray) (ps : List ByteArray) : ∀ q ∈ kap l a b ps, (0 ≤ q.1 ∧ q.1 ≤ 10) ∧ (0 ≤ q.2 ∧ q.2 ≤ 10) := fun q hq => by
 obtain ⟨p, _, hp⟩ := List.mem_filterMap.1 hq
 unfold bothOf at hp
 cases h1 : scOf l p a with
 | none => rw [h1] at hp; simp at hp
 | some i =>
  cases h2 : scOf l p b with
  | none => rw [h1, h2] at hp; simp at hp
  | some k =>
   rw [h1, h2] at hp
   simp at hp
   subst hp
   exact ⟨scOf_bd hok h1, scOf_bd hok h2⟩
theorem filterMap_some_perm {α β : Type} [DecidableEq α] (f : α → Option β) {ps qs : List α} (h1 : ps.Nodup) (h2 : qs.Nodup) (h : ∀ p, (f p).isSome = true → (p ∈ ps ↔ p ∈ qs)) : (ps.filterMap f).Perm (qs.filterMap f) := by
 have e : ∀ rs : List α, rs.filterMap f = (rs.filter (fun p => (f p).isSome)).filterMap f := by
  intro rs
  induction rs with
  | nil => rfl
  | cons x r ih =>
   rw [List.filterMap_cons, List.filter_cons]
   cases hx : f x with
   | none => simp [ih]
   | some y => simp [hx, ih]
 rw [e ps, e qs]
 refine List.Perm.filterMap f ?_
 refine (List.perm_ext_iff_of_nodup (h1.filter _) (h2.filter _)).2 fun p => ?_
 rw [List.mem_filter, List.mem_filter]
 constructor
 ·
  rintro ⟨ha, hb⟩; exact ⟨(h p hb).1 ha, hb⟩
 ·
  rintro ⟨ha, hb⟩; exact ⟨(h p hb).2 ha, hb⟩
def cntA (L : List (Int × Int)) (j : Nat) : Int := (L.countP (fun q => decide (q.1 = (j : Int))) : Nat)
def cntB (L : List (Int × Int)) (j : Nat) : Int := (L.countP (fun q => decide (q.2 = (j : Int))) : Nat)
def sameN (L : List (Int × Int)) : Int := (L.countP (fun q => decide (q.1 = q.2)) : Nat)
theorem cntA_snoc (L : List (Int × Int)) (x : Int × Int) (j : Nat) : cntA (L ++ [x]) j = cntA L j + if x.1 = (j : Int) then 1 else 0 := by
 unfold cntA; rw [List.countP_append, List.countP_cons]; by_cases h : x.1 = (j : Int) <;> simp [h]
theorem cntB_snoc (L : List (Int × Int)) (x : Int × Int) (j : Nat) : cntB (L ++ [x]) j = cntB L j + if x.2 = (j : Int) then 1 else 0 := by
 unfold cntB; rw [List.countP_append, List.countP_cons]; by_cases h : x.2 = (j : Int) <;> simp [h]
theorem sameN_snoc (L : List (Int × Int)) (x : Int × Int) : sameN (L ++ [x]) = sameN L + if x.1 = x.2 then 1 else 0 := by
 unfold sameN; rw [List.countP_append, List.countP_cons]; by_cases h : x.1 = x.2 <;> simp [h]
theorem cntA_bd (L : List (Int × Int)) (j : Nat) : 0 ≤ cntA L j ∧ cntA L j ≤ L.length := by unfold cntA; have := List.countP_le_length (l := L) (p := fun q => decide (q.1 = (j : Int))); omega
theorem cntB_bd (L : List (Int × Int)) (j : Nat) : 0 ≤ cntB L j ∧ cntB L j ≤ L.length := by unfold cntB; have := List.countP_le_length (l := L) (p := fun q => decide (q.2 = (j : Int))); omega
theorem sameN_bd (L : List (Int × Int)) : 0 ≤ sameN L ∧ sameN L ≤ L.length := by unfold sameN; have := List.countP_le_length (l := L) (p := fun q => decide (q.1 = q.2)); omega
/-- What chance gives, of the first j scores. -/
def chanceN (L : List (Int × Int)) : Nat → Int
 | 0 => 0
 | j + 1 => chanceN L j + cntA L j * cntB L j
theorem chance_bd (L : List (Int × Int)) (j : Nat) : 0 ≤ chanceN L j ∧ chanceN L j ≤ (j : Int) * ((L.length : Int) * L.length) := by
 induction j with
 | zero => simp [chanceN]
 | succ j ih =>
  have h1 := cntA_bd L j
  have h2 := cntB_bd L j
  have h3 := mul_in h1.1 h1.2 h2.1 h2.2
  rw [chanceN, Int.natCast_add, Int.add_mul]
  simp only [Int.natCast_one, Int.one_mul]
  omega
def sumA (L : List (Int × Int)) : Nat → Int
 | 0 => 0
 | j + 1 => sumA L j + cntA L j
theorem cnt_below (L : List (Int × Int)) (n : Nat) : L.countP (fun q => decide (0 ≤ q.1) && decide (q.1 < (n : Int))) + L.countP (fun q => decide (q.1 = (n : Int))) = L.countP (fun q => decide (0 ≤ q.1) && decide (q.1 < ((n + 1 : Nat) : Int))) := by
 induction L with
 | nil => rfl
 | cons x r ih =>
  rw [List.countP_cons, List.countP_cons, List.countP_cons]
  by_cases h : x.1 = (n : Int)
  ·
   have h1 : (decide (0 ≤ x.1) && decide (x.1 < (n : Int))) = false := by simp; omega
   have h2 : (decide (0 ≤ x.1) && decide (x.1 < ((n + 1 : Nat) : Int))) = true := by simp; omega
   rw [if_neg (by rw [h1]; simp), if_pos (by simp [h]), if_pos h2]
   omega
  ·
   have h1 : (decide (0 ≤ x.1) && decide (x.1 < (n : Int))) = (decide (0 ≤ x.1) && decide (x.1 < ((n + 1 : Nat) : Int))) := by
    congr 1; rw [decide_eq_decide]; omega
   rw [h1, if_neg (show ¬ decide (x.1 = (n : Int)) = true by simpa using h)]
   omega
theorem sumA_is (L : List (Int × Int)) (n : Nat) : sumA L n = ((L.countP (fun q => decide (0 ≤ q.1) && decide (q.1 < (n : Int)))) : Nat) := by
 induction n with
 | zero =>
  rw [sumA]
  have : L.countP (fun q => decide (0 ≤ q.1) && decide (q.1 < ((0 : Nat) : Int))) = 0 := by
   rw [List.countP_eq_zero]; intro q _; simp
  rw [this]; rfl
 | succ n ih =>
  rw [sumA, ih, ← cnt_below L n]
  unfold cntA
  rw [Int.natCast_add]
theorem sumA_le (L : List (Int × Int)) (n : Nat) : sumA L n ≤ L.length := by rw [sumA_is]; have := List.countP_le_length (l := L) (p := fun q => decide (0 ≤ q.1) && decide (q.1 < (n : Int))); omega
theorem chance_sum (L : List (Int × Int)) (n : Nat) : chanceN L n ≤ sumA L n * L.length := by
 induction n with
 | zero => simp [chanceN, sumA]
 | succ n ih =>
  rw [chanceN, sumA, Int.add_mul]
  have h1 := cntA_bd L n
  have h2 := cntB_bd L n
  have := Int.mul_le_mul_of_nonneg_left h2.2 h1.1
  omega
theorem chance_le (L : List (Int × Int)) (n : Nat) : chanceN L n ≤ (L.length : Int) * L.length := Int.le_trans (chance_sum L n) (Int.mul_le_mul_of_nonneg_right (sumA_le L n) (by omega))
/-- Kappa's fraction and its error. -/
def kresN (L : List (Int × Int)) : Int := if L = [] then 0 else if (L.length : Int) * L.length = chanceN L 11 then 1 else lowN (L.length * sameN L - chanceN L 11) (L.length * L.length - chanceN L 11)
def kresD (L : List (Int × Int)) : Int := if L = [] then 0 else if (L.length : Int) * L.length = chanceN L 11 then 1 else lowD (L.length * sameN L - chanceN L 11) (L.length * L.length - chanceN L 11)
def kresE (L : List (Int × Int)) : Int := if L = [] then 8 else 0
theorem chance_perm {L K : List (Int × Int)} (h : L.Perm K) (n : Nat) : chanceN L n = chanceN K n := by
 induction n with
 | zero => rfl
 | succ n ih =>
  rw [chanceN, chanceN, ih]
  unfold cntA cntB
  rw [h.countP_eq, h.countP_eq]
theorem kres_perm {L K : List (Int × Int)} (h : L.Perm K) : kresN L = kresN K ∧ kresD L = kresD K ∧ kresE L = kresE K := by
 have h0 : L = [] ↔ K = [] := by
  constructor
  ·
   rintro rfl; exact h.symm.eq_nil
  ·
   rintro rfl; exact h.eq_nil
 have h1 : sameN L = sameN K := by unfold sameN; rw [h.countP_eq]
 unfold kresN kresD kresE
 rw [h.length_eq, chance_perm h, h1]
 simp only [h0, and_self]
theorem kap_perm {l : List Mark} (a b : ByteArray) {ps : List ByteArray} (hn : ps.Nodup) (hk : (keysOf (fun x => x.1) l).Nodup) (hp : ∀ p, p ∈ ps ↔ ∃ x ∈ sel (fun x => x.2.1) a l, x.1 = p) : (kap l a b ps).Perm (kap l a b (keysOf (fun x => x.1) l)) := by
 refine filterMap_some_perm _ hn hk fun p h => ?_
 rw [hp, keysOf_mem]
 constructor
 ·
  rintro ⟨x, hx, rfl⟩; exact ⟨x, (List.mem_filter.1 hx).1, rfl⟩
 ·
  intro _
  unfold bothOf at h
  cases h1 : scOf l p a with
  | none => rw [h1] at h; simp at h
  | some i => exact ⟨_, List.mem_filter.2 ⟨scOf_some h1, by simp⟩, rfl⟩
end Go.Proofs.YtcjcdbhobehlpaaGreatDoor

/-! Kappa: the scores of a person (program), the score of a pair (reference), eleven counts. -/
namespace Go.Proofs.YtcjcdbhobehlpaaGreatDoor
open Go.RowKit Go.Sort
set_option linter.unusedVariables false
set_option linter.unusedSimpArgs false


theorem scOf_drop (l : List Mark) (p h : ByteArray) (k : Nat) (hk : k < l.length) (hm : (decide (l[k].1 = p) && decide (l[k].2.1 = h)) = false) : scOf (l.drop k) p h = scOf (l.drop (k + 1)) p h := by
 unfold scOf; rw [find_drop _ l k hk hm]
theorem scOf_at (l : List Mark) (p h : ByteArray) (k : Nat) (hk : k < l.length) (hm : (decide (l[k].1 = p) && decide (l[k].2.1 = h)) = true) : scOf (l.drop k) p h = some l[k].2.2 := by
 unfold scOf; rw [find_drop_yes _ l k hk hm]; rfl
/-- A score that is there or not. -/
def scVal (o : Option Int) : Value := .tuple #[.int .i64 (o.getD 0), .bool o.isSome]
set_option maxHeartbeats 1000000 in
theorem scoreOf_any (l : List Mark) (a : Option Addr) (cap : Nat) (p h : ByteArray) (w : World) (hs : SA w a l) (hl : l.length ≤ 100000) :
  Calls Tryz.prog 51 #[.slice a l.length cap, .string p, .string h] w (Gives (scVal (scOf l p h)) w) := by
 go_enter Tryz.func51, Tryz.ntmps51
 go_wp2_with fail
 go_loopg [12] l.length (fun gk i wr => ∃ k : Nat, i = .int .i64 k ∧ k ≤ l.length ∧ Hid (gk = l.length - k) ∧ Hid (scOf l p h = scOf (l.drop k) p h) ∧ Below w.heap.size w wr)
 case atStart => exact ⟨0, rfl, by omega, rfl, rfl, Below.refl _ _⟩
 case round =>
  obtain ⟨k, rfl, hk, hgk, hsc, hb⟩ := hrel
  have hz := hb.size
  by_cases hlt : k < l.length
  ·
   obtain ⟨b, off, ha, c0, c1, c2⟩ := (hs.below hb).mark hlt
   have Hno := Lib.hid (scOf_drop l p h k hlt)
   have Hyes := Lib.hid (scOf_at l p h k hlt)
   rw [ha]
   generalize hx : l[k] = x at *
   obtain ⟨x1, x2, x3⟩ := x
   simp only at c0 c1 c2 Hno Hyes
   clear hx
   by_cases hp : x1 = p
   ·
    by_cases hh : x2 = h
    ·
     have hp' := tl_eq hp
     have hh' := tl_eq hh
     have HY := Lib.hid (Hyes.out (by simp [hp, hh]))
     clear hp hh Hno Hyes
     go_wp2_with fail
     go_ret2
     exact ⟨by rw [hsc.out, HY.out]; rfl, by (repeat' (first | exact Below.refl _ _ | assumption | refine Below.setCell ?_ ?_ _ | refine below_drewN ?_ _ | refine Below.drew ?_ | refine Below.alloc ?_ ?_ _ | (with_reducible refine Below.trans ?_ (Below.mono hb ?_)) | (with_reducible refine Below.trans ?_ (Below.mono hb0 ?_)) | (with_reducible refine Below.trans ?_ (Below.mono hb1 ?_)) | (with_reducible refine Below.trans ?_ (Below.mono hb2 ?_)) | (with_reducible refine Below.trans ?_ (Below.mono hb3 ?_)) | (with_reducible refine Below.trans ?_ (Below.mono hb4 ?_)) | (with_reducible refine Below.trans ?_ (Below.mono hb5 ?_)) | (with_reducible refine Below.trans ?_ (Below.mono hb6 ?_)) | (with_reducible refine Below.trans ?_ (Below.mono hb7 ?_)) | (with_reducible refine Below.trans ?_ (Below.mono hb8 ?_)) | (with_reducible refine Below.trans ?_ (Below.mono hb9 ?_)) | (with_reducible refine Below.trans ?_ (Below.mono hb10 ?_)) | (with_reducible refine Below.trans ?_ (Below.mono hb11 ?_)) | (with_reducible refine Below.trans ?_ (Below.mono hb12 ?_)) | (with_reducible refine Below.trans ?_ (Below.mono hb13 ?_)) | (with_reducible refine Below.trans ?_ (Below.mono hb14 ?_)) | (with_reducible refine Below.trans ?_ (Below.mono hb15 ?_)) | omega | (simp; done) | (simp; omega)))⟩
    ·
     have hp' := tl_eq hp
     have hh' := tl_ne hh
     have HN := Lib.hid (Hno.out (by simp [hh]))
     clear hp hh Hno Hyes
     go_wp2_with fail
     rw [← ha]
     go_roundg (l.length - (k + 1))
     case measure => have := hgk.out; omega
     case rel => exact ⟨k + 1, by go_num, by omega, rfl, hsc.out.trans HN.out, by (repeat' (first | exact Below.refl _ _ | assumption | refine Below.setCell ?_ ?_ _ | refine below_drewN ?_ _ | refine Below.drew ?_ | refine Below.alloc ?_ ?_ _ | (with_reducible refine Below.trans ?_ (Below.mono hb ?_)) | (with_reducible refine Below.trans ?_ (Below.mono hb0 ?_)) | (with_reducible refine Below.trans ?_ (Below.mono hb1 ?_)) | (with_reducible refine Below.trans ?_ (Below.mono hb2 ?_)) | (with_reducible refine Below.trans ?_ (Below.mono hb3 ?_)) | (with_reducible refine Below.trans ?_ (Below.mono hb4 ?_)) | (with_reducible refine Below.trans ?_ (Below.mono hb5 ?_)) | (with_reducible refine Below.trans ?_ (Below.mono hb6 ?_)) | (with_reducible refine Below.trans ?_ (Below.mono hb7 ?_)) | (with_reducible refine Below.trans ?_ (Below.mono hb8 ?_)) | (with_reducible refine Below.trans ?_ (Below.mono hb9 ?_)) | (with_reducible refine Below.trans ?_ (Below.mono hb10 ?_)) | (with_reducible refine Below.trans ?_ (Below.mono hb11 ?_)) | (with_reducible refine Below.trans ?_ (Below.mono hb12 ?_)) | (with_reducible refine Below.trans ?_ (Below.mono hb13 ?_)) | (with_reducible refine Below.trans ?_ (Below.mono hb14 ?_)) | (with_reducible refine Below.trans ?_ (Below.mono hb15 ?_)) | omega | (simp; done) | (simp; omega)))⟩
   ·
    have hp' := tl_ne hp
    have HN := Lib.hid (Hno.out (by simp [hp]))
    clear hp Hno Hyes
    go_wp2_with fail
    rw [← ha]
    go_roundg (l.length - (k + 1))
    case measure => have := hgk.out; omega
    case rel => exact ⟨k + 1, by go_num, by omega, rfl, hsc.out.trans HN.out, by (repeat' (first | exact Below.refl _ _ | assumption | refine Below.setCell ?_ ?_ _ | refine below_drewN ?_ _ | refine Below.drew ?_ | refine Below.alloc ?_ ?_ _ | (with_reducible refine Below.trans ?_ (Below.mono hb ?_)) | (with_reducible refine Below.trans ?_ (Below.mono hb0 ?_)) | (with_reducible refine Below.trans ?_ (Below.mono hb1 ?_)) | (with_reducible refine Below.trans ?_ (Below.mono hb2 ?_)) | (with_reducible refine Below.trans ?_ (Below.mono hb3 ?_)) | (with_reducible refine Below.trans ?_ (Below.mono hb4 ?_)) | (with_reducible refine Below.trans ?_ (Below.mono hb5 ?_)) | (with_reducible refine Below.trans ?_ (Below.mono hb6 ?_)) | (with_reducible refine Below.trans ?_ (Below.mono hb7 ?_)) | (with_reducible refine Below.trans ?_ (Below.mono hb8 ?_)) | (with_reducible refine Below.trans ?_ (Below.mono hb9 ?_)) | (with_reducible refine Below.trans ?_ (Below.mono hb10 ?_)) | (with_reducible refine Below.trans ?_ (Below.mono hb11 ?_)) | (with_reducible refine Below.trans ?_ (Below.mono hb12 ?_)) | (with_reducible refine Below.trans ?_ (Below.mono hb13 ?_)) | (with_reducible refine Below.trans ?_ (Below.mono hb14 ?_)) | (with_reducible refine Below.trans ?_ (Below.mono hb15 ?_)) | omega | (simp; done) | (simp; omega)))⟩
  ·
   obtain rfl : k = l.length := by omega
   have Hn := Lib.hid (show scOf l p h = none by rw [hsc.out, List.drop_length]; rfl)
   clear hlt
   go_wp2_with fail
   go_ret2
   exact ⟨by rw [Hn.out]; rfl, hb⟩

/-- Eleven numbers in memory. -/
def elev (f : Nat → Int) : Array Value := #[.int .i64 (f 0), .int .i64 (f 1), .int .i64 (f 2), .int .i64 (f 3), .int .i64 (f 4), .int .i64 (f 5), .int .i64 (f 6), .int .i64 (f 7), .int .i64 (f 8), .int .i64 (f 9), .int .i64 (f 10)]
theorem elev_get (f : Nat → Int) {j : Nat} (h : j < 11) : (elev f)[j]? = some (.int .i64 (f j)) := by
 have : j = 0 ∨ j = 1 ∨ j = 2 ∨ j = 3 ∨ j = 4 ∨ j = 5 ∨ j = 6 ∨ j = 7 ∨ j = 8 ∨ j = 9 ∨ j = 10 := by omega
 rcases this with rfl | rfl | rfl | rfl | rfl | rfl | rfl | rfl | rfl | rfl | rfl <;> rfl
theorem elev_set (f g : Nat → Int) {j : Nat} (h : j < 11) (v : Int) (hg : ∀ i, g i = if i = j then v else f i) : (elev f).setIfInBounds j (.int .i64 v) = elev g := by
 have : j = 0 ∨ j = 1 ∨ j = 2 ∨ j = 3 ∨ j = 4 ∨ j = 5 ∨ j = 6 ∨ j = 7 ∨ j = 8 ∨ j = 9 ∨ j = 10 := by omega
 unfold elev
 simp only [hg]
 rcases this with rfl | rfl | rfl | rfl | rfl | rfl | rfl | rfl | rfl | rfl | rfl <;> rfl
end Go.Proofs.YtcjcdbhobehlpaaGreatDoor

/-! Kappa of the program. -/
namespace Go.Proofs.YtcjcdbhobehlpaaGreatDoor
open Go.RowKit Go.Sort
set_option linter.unusedVariables false
set_option linter.unusedSimpArgs false

/-- What Kappa gives. -/
def kapRN (l : List Mark) (pa pb : ByteArray) : Int := if pa = pb then 0 else kresN (kap l pa pb (keysOf (fun x => x.1) l))
def kapRD (l : List Mark) (pa pb : ByteArray) : Int := if pa = pb then 0 else kresD (kap l pa pb (keysOf (fun x => x.1) l))
def kapRE (l : List Mark) (pa pb : ByteArray) : Int := if pa = pb then 6 else kresE (kap l pa pb (keysOf (fun x => x.1) l))
theorem looked_sc {l : List Mark} (h : marksFault l = 0) (a p : ByteArray) : looked (scE (sel (fun x => x.2.1) a l)) p (.int .i64 0) true = scVal (scOf l p a) := by
 unfold looked scVal
 rw [scE_get h]
 cases scOf l p a <;> rfl
theorem scE_mem {l : List Mark} (h : marksFault l = 0) {a k : ByteArray} {v : Value} (hm : (k, v) ∈ scE (sel (fun x => x.2.1) a l)) : ∃ i, scOf l k a = some i ∧ v = .int .i64 i := by
 have h1 := mget_of_mem (scE_nodup _) hm
 rw [scE_get h] at h1
 rw [Option.map_eq_some_iff] at h1
 obtain ⟨i, hi, rfl⟩ := h1
 exact ⟨i, hi, rfl⟩

end Go.Proofs.YtcjcdbhobehlpaaGreatDoor

/-! Kappa of the reference. -/
namespace Go.Proofs.YtcjcdbhobehlpaaGreatDoor
open Go.RowKit Go.Sort
set_option linter.unusedVariables false
set_option linter.unusedSimpArgs false


end Go.Proofs.YtcjcdbhobehlpaaGreatDoor
