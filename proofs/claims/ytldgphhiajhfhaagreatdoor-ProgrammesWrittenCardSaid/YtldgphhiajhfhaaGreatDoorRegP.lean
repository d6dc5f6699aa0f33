/- A phase of a region in which several operations that make memory come up in any order: each operation is shown once, whatever came up before it. -/
import Derived.Test.YtldgphhiajhfhaaGreatDoorRegF
namespace Go.Proofs.YtldgphhiajhfhaaGreatDoor
open Go.RowKit
set_option linter.unusedVariables false
set_option linter.unusedSimpArgs false

theorem getD_setB {l : Array Bool} {i j : Nat} (hi : i < l.size) : (l.setIfInBounds i true).getD j false = if i = j then true else l.getD j false := by
 by_cases h : i = j
 ·
  subst h; rw [if_pos rfl]; simp [hi]
 ·
  rw [if_neg h]; exact getD_set_ne false h
theorem getD_setV {l : Array Value} {i j : Nat} {v : Value} (hi : i < l.size) : (l.setIfInBounds i v).getD j undef = if i = j then v else l.getD j undef := by
 by_cases h : i = j
 ·
  subst h; rw [if_pos rfl]; simp [hi]
 ·
  rw [if_neg h]; simp [Array.getElem?_setIfInBounds_ne h]
theorem arr_ext {α : Type} {a b : Array α} {d : α} (hs : a.size = b.size) (h : ∀ i, a.getD i d = b.getD i d) : a = b := by
 apply Array.ext hs
 intro i h1 h2
 have := h i
 simp [h1, h2] at this
 exact this
section
variable {P : Program} {ops : Array Oper} {Q : Exit → Act → World → Prop} {md : Region.Mode} {S : World → Prop} {f : Nat}
/-- Operation j is waited for by operation m. -/
def predB (md : Region.Mode) (ops : Array Oper) (m j : Nat) : Bool := match ops[m]? with | some o => o.after.any (fun e => Region.binds md e && e.on == j) | none => false
/-- The phase: where it stands. -/
structure Phs (md : Region.Mode) (ops : Array Oper) (M : List Nat) (D : Nat → Nat) (c : Nat → Int) (Pr : Value → Value → Prop) (F : Nat → Value → World → Prop) (G : Int → World → Prop) (S : World → Prop) (L0 : Array Bool) (A0 : Act) (listed : Array Bool) (a : Act) (w : World) : Prop where
 size : listed.size = L0.size
 other : ∀ i, i ∉ M → listed.getD i false = L0.getD i false
 closed : Closed md ops listed
 tsize : a.tmps.size = A0.tmps.size
 defers : a.defers = A0.defers
 frame : ∀ s, (∀ m ∈ M, D m ≠ s) → a.tmps.getD s undef = A0.tmps.getD s undef
 facts : ∀ m ∈ M, listed.getD m false = true → F m (a.tmps.getD (D m) undef) w
 apart : ∀ m ∈ M, ∀ j ∈ M, m ≠ j → listed.getD m false = true → listed.getD j false = true → Pr (a.tmps.getD (D m) undef) (a.tmps.getD (D j) undef)
 g : G ((M.map (fun m => if listed.getD m false = true then c m else 0)).foldl (· + ·) 0) w
 held : S w
theorem foldl_set {M : List Nat} : ∀ (L : Array Bool) (i : Nat), (∀ m ∈ M, m < L.size) → (M.foldl (fun l m => l.setIfInBounds m true) L).getD i false = if i ∈ M then true else L.getD i false := by
 induction M with
 | nil => intro L i _; simp
 | cons m r ih =>
  intro L i h
  rw [List.foldl_cons, ih _ _ (fun x hx => by simpa using h x (List.mem_cons_of_mem _ hx)), getD_setB (h m (List.mem_cons_self ..))]
  by_cases h1 : i ∈ r
  ·
   rw [if_pos h1, if_pos (List.mem_cons_of_mem _ h1)]
  ·
   rw [if_neg h1]
   by_cases h2 : m = i
   ·
    rw [if_pos h2, if_pos (by rw [h2]; exact List.mem_cons_self ..)]
   ·
    rw [if_neg h2, if_neg (by intro h3; rcases List.mem_cons.1 h3 with h3 | h3; exact h2 h3.symm; exact h1 h3)]
theorem foldl_size {M : List Nat} : ∀ (L : Array Bool), (M.foldl (fun l m => l.setIfInBounds m true) L).size = L.size := by
 induction M with
 | nil => intro L; rfl
 | cons m r ih => intro L; rw [List.foldl_cons, ih]; simp
theorem foldl_put {M : List Nat} {D : Nat → Nat} {v : Nat → Value} : ∀ (A : Act), (M.foldl (fun a m => a.put (some (D m)) (v m)) A).tmps.size = A.tmps.size ∧ (M.foldl (fun a m => a.put (some (D m)) (v m)) A).defers = A.defers := by
 induction M with
 | nil => intro A; exact ⟨rfl, rfl⟩
 | cons m r ih =>
  intro A
  rw [List.foldl_cons]
  obtain ⟨h1, h2⟩ := ih (A.put (some (D m)) (v m))
  rw [h1, h2]
  simp [Act.put]
theorem foldl_get {M : List Nat} {D : Nat → Nat} {x : Nat → Value} : ∀ (A : Act) (s : Nat), (∀ m ∈ M, D m < A.tmps.size) → (M.foldl (fun a m => a.put (some (D m)) (x (D m))) A).tmps.getD s undef = if s ∈ M.map D then x s else A.tmps.getD s undef := by
 induction M with
 | nil => intro A s _; simp
 | cons m r ih =>
  intro A s h
  have hm : D m < A.tmps.size := h m (List.mem_cons_self ..)
  rw [List.foldl_cons, ih _ _ (fun y hy => by simpa [Act.put] using h y (List.mem_cons_of_mem _ hy))]
  by_cases h1 : s ∈ r.map D
  ·
   rw [if_pos h1, if_pos (by rw [List.map_cons]; exact List.mem_cons_of_mem _ h1)]
  ·
   rw [if_neg h1]
   show (A.tmps.setIfInBounds (D m) (x (D m))).getD s undef = _
   rw [getD_setV hm]
   by_cases h2 : D m = s
   ·
    rw [if_pos h2, if_pos (by rw [List.map_cons, h2]; exact List.mem_cons_self ..), h2]
   ·
    rw [if_neg h2, if_neg (by rw [List.map_cons]; intro h3; rcases List.mem_cons.1 h3 with h3 | h3; exact h2 h3.symm; exact h1 h3)]
theorem sum_step {M : List Nat} {c : Nat → Int} {l : Array Bool} {i : Nat} (hn : M.Nodup) (hi : i ∈ M) (hl : l.getD i false = false) (hs : i < l.size) :
  (M.map (fun m => if (l.setIfInBounds i true).getD m false = true then c m else 0)).foldl (· + ·) 0 = (M.map (fun m => if l.getD m false = true then c m else 0)).foldl (· + ·) 0 + c i := by
 have key : ∀ (M : List Nat) (z : Int), M.Nodup → (M.map (fun m => if (l.setIfInBounds i true).getD m false = true then c m else 0)).foldl (· + ·) z = (M.map (fun m => if l.getD m false = true then c m else 0)).foldl (· + ·) z + if i ∈ M then c i else 0 := by
  intro M
  induction M with
  | nil => intro z _; simp
  | cons m r ih =>
   intro z hn
   rw [List.nodup_cons] at hn
   rw [List.map_cons, List.map_cons, List.foldl_cons, List.foldl_cons, ih _ hn.2, getD_setB hs]
   have shift : ∀ (L : List Int) (a b : Int), L.foldl (· + ·) (a + b) = L.foldl (· + ·) a + b := by
    intro L
    induction L with
    | nil => intro a b; rfl
    | cons y L ihL => intro a b; rw [List.foldl_cons, List.foldl_cons, show a + b + y = (a + y) + b by omega, ihL]
   by_cases h : i = m
   ·
    subst h
    rw [if_neg hn.1, if_pos rfl, if_pos rfl, if_pos (List.mem_cons_self ..), hl, if_neg (by decide), show z + c i = (z + 0) + c i by omega, shift]
    omega
   ·
    rw [if_neg h]
    by_cases h2 : i ∈ r
    ·
     rw [if_pos h2, if_pos (List.mem_cons_of_mem _ h2)]
    ·
     have h4 : ¬ i ∈ m :: r := by intro h3; rcases List.mem_cons.1 h3 with h3 | h3; exact h h3; exact h2 h3
     rw [if_neg h2, if_neg h4]
 rw [key M 0 hn, if_pos hi]
theorem sum_le {M : List Nat} {c : Nat → Int} {l : Array Bool} (hc : ∀ m, 0 ≤ c m) : ∀ z y : Int, z ≤ y → (M.map (fun m => if l.getD m false = true then c m else 0)).foldl (· + ·) z ≤ (M.map c).foldl (· + ·) y := by
 induction M with
 | nil => intro z y h; exact h
 | cons m r ih =>
  intro z y h
  rw [List.map_cons, List.map_cons, List.foldl_cons, List.foldl_cons]
  refine ih _ _ ?_
  have := hc m
  split <;> omega
theorem wpAnyF_phaseP (Pr : Value → Value → Prop) (M : List Nat) (D : Nat → Nat) (c : Nat → Int) (F : Nat → Value → World → Prop) (G : Int → World → Prop) (Ext : World → World → Prop) (L0 : Array Bool) (A0 : Act) (n fuel0 : Nat) (w0 : World)
  (hn : M.Nodup) (hinj : ∀ i ∈ M, ∀ j ∈ M, D i = D j → i = j) (hD : ∀ m ∈ M, D m < A0.tmps.size) (hsz : L0.size = ops.size)
  (hop0 : ∀ m ∈ M, ∃ o, ops[m]? = some o ∧ o.dst = some (D m) ∧ L0.getD m false = false)
  (htopo : ∀ m ∈ M, ∀ o, ops[m]? = some o → ∀ e ∈ o.after, Region.binds md e = true → L0.getD e.on false = true ∨ (e.on ∈ M ∧ e.on < m))
  (hanc : ∀ i, i ∉ M → i < ops.size → L0.getD i false = false → ∀ m ∈ M, ancB md ops n i m = true)
  (hstab : ∀ j v w w', Ext w w' → F j v w → F j v w')
  (hc : ∀ m, 0 ≤ c m) (hop : ∀ m ∈ M, ∀ o, ops[m]? = some o → ∀ a w t (K' : Act → World → Prop), t + c m ≤ (M.map c).foldl (· + ·) 0 → S w → G t w → (∀ s, (∀ m ∈ M, D m ≠ s) → a.tmps.getD s undef = A0.tmps.getD s undef) →
   (∀ j ∈ M, predB md ops m j = true → F j (a.tmps.getD (D j) undef) w) → Shut (∀ v w', Ext w w' → S w' → F m v w' → G (t + c m) w' → (∀ j u, F j u w → Pr u v ∧ Pr v u) → K' (a.put (some (D m)) v) w') →
   if Region.wanted o (yielded ops a.tmps) = true then Oper.wp P o a w K' Q else K' (a.put o.dst undef) w)
  (hend : ∀ (v : Nat → Value) w, (∀ m ∈ M, F m (v m) w) → (∀ m ∈ M, ∀ j ∈ M, m ≠ j → Pr (v m) (v j)) → G ((M.map c).foldl (· + ·) 0) w → S w → wpAnyF P md ops Q S f fuel0 (M.foldl (fun l m => l.setIfInBounds m true) L0) (M.foldl (fun a m => a.put (some (D m)) (v m)) A0) w)
  (hcl : closedB md ops L0 = true) (hG : G 0 w0) (hS : S w0) : wpAnyF P md ops Q S f (fuel0 + M.length) L0 A0 w0 := by
 have hMs : ∀ m ∈ M, m < ops.size := fun m hm => by
  obtain ⟨o, ho, -⟩ := hop0 m hm
  exact (Array.getElem?_eq_some_iff.1 ho).1
 have main : ∀ k listed a w, (M.filter (fun m => !listed.getD m false)).length = k → Phs md ops M D c Pr F G S L0 A0 listed a w → wpAnyF P md ops Q S f (fuel0 + k) listed a w := by
  intro k
  induction k with
  | zero =>
   intro listed a w hk h
   have hall : ∀ m ∈ M, listed.getD m false = true := fun m hm => by
    have h1 : M.filter (fun m => !listed.getD m false) = [] := List.eq_nil_of_length_eq_zero hk
    have h2 := (List.filter_eq_nil_iff.1 h1) m hm
    simpa using h2
   have e1 : listed = M.foldl (fun l m => l.setIfInBounds m true) L0 := by
    refine arr_ext (d := false) (by rw [foldl_size, h.size]) (fun i => ?_)
    rw [foldl_set _ _ (fun m hm => by rw [hsz]; exact hMs m hm)]
    by_cases hi : i ∈ M
    ·
     rw [if_pos hi]; exact hall i hi
    ·
     rw [if_neg hi]; exact h.other i hi
   have e2 : a = M.foldl (fun b m => b.put (some (D m)) (a.tmps.getD (D m) undef)) A0 := by
    have h3 := foldl_put (M := M) (D := D) (v := fun m => a.tmps.getD (D m) undef) A0
    have h4 : a.tmps = (M.foldl (fun b m => b.put (some (D m)) (a.tmps.getD (D m) undef)) A0).tmps := by
     refine arr_ext (d := undef) (by rw [h3.1, h.tsize]) (fun s => ?_)
     rw [foldl_get (x := fun s => a.tmps.getD s undef) _ _ hD]
     by_cases hs : s ∈ M.map D
     ·
      rw [if_pos hs]
     ·
      rw [if_neg hs]
      exact h.frame s (fun m hm e => hs (by rw [← e]; exact List.mem_map_of_mem hm))
    have h5 := h3.2
    generalize M.foldl (fun b m => b.put (some (D m)) (a.tmps.getD (D m) undef)) A0 = B at *
    have h6 := h.defers
    cases a
    cases B
    simp only at h4 h5 h6
    rw [h4, h5, h6]
   have hg := h.g
   have e3 : M.map (fun m => if listed.getD m false = true then c m else 0) = M.map c := List.map_congr_left (fun m hm => if_pos (hall m hm))
   rw [e3] at hg
   have := hend (fun m => a.tmps.getD (D m) undef) w (fun m hm => h.facts m hm (hall m hm)) (fun m hm j hj hne => h.apart m hm j hj hne (hall m hm) (hall j hj)) hg h.held
   rw [← e1, ← e2] at this
   exact this
  | succ k ih =>
   intro listed a w hk h
   have hsome : ∃ m, m ∈ M ∧ listed.getD m false = false := by
    obtain ⟨m, hm⟩ := List.exists_mem_of_length_pos (by rw [hk]; omega : 0 < (M.filter (fun m => !listed.getD m false)).length)
    rw [List.mem_filter] at hm
    exact ⟨m, hm.1, by simpa using hm.2⟩
   refine ⟨fun hr => ?_, fun i hi => ?_⟩
   ·
    exfalso
    obtain ⟨m, ⟨hm, hu⟩, hmin⟩ : ∃ m, (m ∈ M ∧ listed.getD m false = false) ∧ ∀ j, j < m → ¬ (j ∈ M ∧ listed.getD j false = false) := by
     obtain ⟨m0, hm0⟩ := hsome
     induction m0 using Nat.strongRecOn with
     | _ m0 ihm =>
      by_cases hx : ∃ j, j < m0 ∧ j ∈ M ∧ listed.getD j false = false
      ·
       obtain ⟨j, hj, hj2⟩ := hx
       exact ihm j hj hj2
      ·
       exact ⟨m0, hm0, fun j hj hj2 => hx ⟨j, hj, hj2⟩⟩
    obtain ⟨o, ho, -, -⟩ := hop0 m hm
    have hr2 : m ∈ Region.ready md ops listed := by
     rw [mem_ready]
     have hms := hMs m hm
     refine ⟨?_, o, ho, fun e he hb => ?_⟩
     ·
      have : m < listed.size := by rw [h.size, hsz]; exact hms
      simp [this] at hu ⊢
      exact hu
     ·
      rcases htopo m hm o ho e he hb with h1 | ⟨h1, h2⟩
      ·
       by_cases hem : e.on ∈ M
       ·
        cases hx : listed.getD e.on false with
        | true => rfl
        | false => obtain ⟨_, _, _, h3⟩ := hop0 _ hem; rw [h1] at h3; cases h3
       ·
        rw [h.other _ hem]; exact h1
      ·
       cases hx : listed.getD e.on false with
       | true => rfl
       | false => exact absurd ⟨h1, hx⟩ (hmin _ h2)
    rw [hr] at hr2
    cases hr2
   ·
    obtain ⟨hun, o, ho, hpre⟩ := mem_ready.1 hi
    have his : i < ops.size := (Array.getElem?_eq_some_iff.1 ho).1
    have hil : i < listed.size := by rw [h.size, hsz]; exact his
    have hu : listed.getD i false = false := by simp [hil] at hun ⊢; exact hun
    have hiM : i ∈ M := by
     apply Classical.byContradiction
     intro hx
     obtain ⟨m, hm, hmu⟩ := hsome
     have h1 := anc_listed h.closed n i (fun o' ho' e he hb => by rw [ho] at ho'; cases ho'; exact hpre e he hb) (hanc i hx his (by rw [← h.other i hx]; exact hu) m hm)
     rw [h1] at hmu; cases hmu
    obtain ⟨o', ho', hdst, -⟩ := hop0 i hiM
    rw [ho] at ho'
    cases ho'
    refine wpOp_step ho (fun K' hK' => ?_)
    refine hop i hiM o ho a w _ K' (by rw [← sum_step hn hiM hu hil]; exact sum_le hc 0 0 (Int.le_refl _)) h.held h.g h.frame (fun j hj hp => ?_) ?_
    ·
     refine h.facts j hj ?_
     unfold predB at hp
     rw [ho] at hp
     simp only at hp
     obtain ⟨q, hq, h2⟩ := Array.any_eq_true.1 hp
     have he := Array.getElem_mem hq
     generalize o.after[q] = e at *
     rw [Bool.and_eq_true] at h2
     have := hpre e he h2.1
     rwa [beq_iff_eq.1 h2.2] at this
    ·
     intro v w' hx hS' hF hG' hPr
     refine hK' _ _ ⟨.inr hS', ih (listed.setIfInBounds i true) (a.put (some (D i)) v) w' ?_ ?_⟩
     ·
      have hcount : ∀ (N : List Nat), N.Nodup → i ∈ N → (N.filter (fun m => !listed.getD m false)).length = (N.filter (fun m => !(listed.setIfInBounds i true).getD m false)).length + 1 := by
       intro N
       induction N with
       | nil => intro _ hm; cases hm
       | cons y r ihr =>
        intro hnd hm
        rw [List.nodup_cons] at hnd
        rw [List.filter_cons, List.filter_cons, getD_setB hil]
        by_cases hy : i = y
        ·
         subst hy
         have hsame : r.filter (fun m => !listed.getD m false) = r.filter (fun m => !(listed.setIfInBounds i true).getD m false) := List.filter_congr (fun z hz => by rw [getD_setB hil, if_neg (fun e => hnd.1 (by rw [e]; exact hz))])
         rw [if_pos rfl, hu, hsame]
         simp
        ·
         rw [if_neg hy]
         have hm' : i ∈ r := (List.mem_cons.1 hm).resolve_left hy
         have := ihr hnd.2 hm'
         cases listed.getD y false <;> simp <;> simpa using this
      have := hcount M hn hiM
      omega
     ·
      have hDi : D i < a.tmps.size := by rw [h.tsize]; exact hD i hiM
      refine ⟨by simpa using h.size, fun j hj => ?_, h.closed.set hi, by simp [Act.put]; exact h.tsize, by simp [Act.put]; exact h.defers, fun s hs => ?_, fun m hm hl => ?_, fun m hm j hj hne hl hl2 => ?_, ?_, hS'⟩
      ·
       rw [getD_setB hil, if_neg (fun e => hj (by rw [← e]; exact hiM))]; exact h.other j hj
      ·
       show (a.tmps.setIfInBounds (D i) v).getD s undef = _
       rw [getD_setV hDi, if_neg (hs i hiM)]; exact h.frame s hs
      ·
       show F m ((a.tmps.setIfInBounds (D i) v).getD (D m) undef) w'
       rw [getD_setV hDi]
       by_cases hmi : D i = D m
       ·
        obtain rfl := hinj i hiM m hm hmi
        rw [if_pos rfl]; exact hF
       ·
        rw [if_neg hmi]
        rw [getD_setB hil, if_neg (fun e => hmi (by rw [e]))] at hl
        exact hstab m _ w w' hx (h.facts m hm hl)
      ·
       show Pr ((a.tmps.setIfInBounds (D i) v).getD (D m) undef) ((a.tmps.setIfInBounds (D i) v).getD (D j) undef)
       rw [getD_setV hDi, getD_setV hDi]
       rw [getD_setB hil] at hl hl2
       by_cases hmi : D i = D m
       ·
        obtain rfl := hinj i hiM m hm hmi
        rw [if_neg hne] at hl2
        rw [if_pos rfl, if_neg (fun e => hne (hinj i hiM j hj e))]
        exact (hPr j _ (h.facts j hj hl2)).2
       ·
        rw [if_neg hmi]
        rw [if_neg (fun e => hmi (by rw [e]))] at hl
        by_cases hji : D i = D j
        ·
         obtain rfl := hinj i hiM j hj hji
         rw [if_pos rfl]
         exact (hPr m _ (h.facts m hm hl)).1
        ·
         rw [if_neg hji]
         rw [if_neg (fun e => hji (by rw [e]))] at hl2
         exact h.apart m hm j hj hne hl hl2
      ·
       rw [sum_step hn hiM hu hil]; exact hG'
 have hz : (M.filter (fun m => !L0.getD m false)).length = M.length := by
  rw [List.filter_eq_self.2 (fun m hm => by obtain ⟨o, -, -, h3⟩ := hop0 m hm; simp [h3])]
 have := main M.length L0 A0 w0 hz ⟨rfl, fun _ _ => rfl, closed_of hcl, rfl, rfl, fun _ _ => rfl, (fun m hm hl => by obtain ⟨o, -, -, h3⟩ := hop0 m hm; rw [h3] at hl; cases hl), (fun m hm j hj hne hl => by obtain ⟨o, -, -, h3⟩ := hop0 m hm; rw [h3] at hl; cases hl), ?_, hS⟩
 ·
  exact this
 ·
  have e : M.map (fun m => if L0.getD m false = true then c m else 0) = M.map (fun _ => (0 : Int)) := List.map_congr_left (fun m hm => by obtain ⟨o, -, -, h3⟩ := hop0 m hm; rw [h3]; rfl)
  rw [e]
  have z : ∀ (N : List Nat), (N.map (fun _ => (0 : Int))).foldl (· + ·) 0 = 0 := by
   intro N
   induction N with
   | nil => rfl
   | cons y r ihr => rw [List.map_cons, List.foldl_cons]; simpa using ihr
  rw [z]; exact hG
theorem wpAnyF_phase (M : List Nat) (D : Nat → Nat) (c : Nat → Int) (F : Nat → Value → World → Prop) (G : Int → World → Prop) (Ext : World → World → Prop) (L0 : Array Bool) (A0 : Act) (n fuel0 : Nat) (w0 : World)
  (hn : M.Nodup) (hinj : ∀ i ∈ M, ∀ j ∈ M, D i = D j → i = j) (hD : ∀ m ∈ M, D m < A0.tmps.size) (hsz : L0.size = ops.size)
  (hop0 : ∀ m ∈ M, ∃ o, ops[m]? = some o ∧ o.dst = some (D m) ∧ L0.getD m false = false)
  (htopo : ∀ m ∈ M, ∀ o, ops[m]? = some o → ∀ e ∈ o.after, Region.binds md e = true → L0.getD e.on false = true ∨ (e.on ∈ M ∧ e.on < m))
  (hanc : ∀ i, i ∉ M → i < ops.size → L0.getD i false = false → ∀ m ∈ M, ancB md ops n i m = true)
  (hstab : ∀ j v w w', Ext w w' → F j v w → F j v w')
  (hc : ∀ m, 0 ≤ c m) (hop : ∀ m ∈ M, ∀ o, ops[m]? = some o → ∀ a w t (K' : Act → World → Prop), t + c m ≤ (M.map c).foldl (· + ·) 0 → S w → G t w → (∀ s, (∀ m ∈ M, D m ≠ s) → a.tmps.getD s undef = A0.tmps.getD s undef) →
   (∀ j ∈ M, predB md ops m j = true → F j (a.tmps.getD (D j) undef) w) → Shut (∀ v w', Ext w w' → S w' → F m v w' → G (t + c m) w' → K' (a.put (some (D m)) v) w') →
   if Region.wanted o (yielded ops a.tmps) = true then Oper.wp P o a w K' Q else K' (a.put o.dst undef) w)
  (hend : ∀ (v : Nat → Value) w, (∀ m ∈ M, F m (v m) w) → G ((M.map c).foldl (· + ·) 0) w → S w → wpAnyF P md ops Q S f fuel0 (M.foldl (fun l m => l.setIfInBounds m true) L0) (M.foldl (fun a m => a.put (some (D m)) (v m)) A0) w)
  (hcl : closedB md ops L0 = true) (hG : G 0 w0) (hS : S w0) : wpAnyF P md ops Q S f (fuel0 + M.length) L0 A0 w0 :=
 wpAnyF_phaseP (fun _ _ => True) M D c F G Ext L0 A0 n fuel0 w0 hn hinj hD hsz hop0 htopo hanc hstab hc (fun m hm o ho a w t K' ht h1 h2 h3 h4 h5 => hop m hm o ho a w t K' ht h1 h2 h3 h4 (fun v w' g1 g2 g3 g4 => h5.out v w' g1 g2 g3 g4 (fun _ _ _ => ⟨trivial, trivial⟩))) (fun v w h1 _ h2 h3 => hend v w h1 h2 h3) hcl hG hS
def opsB (ops : Array Oper) (L0 : Array Bool) (M : List Nat) (D : Nat → Nat) : Bool := M.all fun m => match ops[m]? with | some o => decide (o.dst = some (D m)) && !L0.getD m false | none => false
def topoB (md : Region.Mode) (ops : Array Oper) (L0 : Array Bool) (M : List Nat) : Bool := M.all fun m => match ops[m]? with | some o => o.after.all (fun e => !Region.binds md e || (L0.getD e.on false || (M.contains e.on && decide (e.on < m)))) | none => true
def restB (md : Region.Mode) (ops : Array Oper) (L0 : Array Bool) (M : List Nat) (n : Nat) : Bool := (List.range ops.size).all fun i => M.contains i || (L0.getD i false || M.all (ancB md ops n i))
theorem wpAnyF_phaseB (M : List Nat) (D : Nat → Nat) (c : Nat → Int) (F : Nat → Value → World → Prop) (G : Int → World → Prop) (Ext : World → World → Prop) (L0 : Array Bool) (A0 : Act) (n fuel0 : Nat) (w0 : World)
  (hn : M.Nodup) (hinj : ∀ i ∈ M, ∀ j ∈ M, D i = D j → i = j) (hD : ∀ m ∈ M, D m < A0.tmps.size) (hsz : L0.size = ops.size)
  (h0 : opsB ops L0 M D = true) (htopo : topoB md ops L0 M = true) (hanc : restB md ops L0 M n = true)
  (hstab : ∀ j v w w', Ext w w' → F j v w → F j v w')
  (hc : ∀ m, 0 ≤ c m) (hop : ∀ m ∈ M, ∀ o, ops[m]? = some o → ∀ a w t (K' : Act → World → Prop), t + c m ≤ (M.map c).foldl (· + ·) 0 → S w → G t w → (∀ s, (∀ m ∈ M, D m ≠ s) → a.tmps.getD s undef = A0.tmps.getD s undef) →
   (∀ j ∈ M, predB md ops m j = true → F j (a.tmps.getD (D j) undef) w) → Shut (∀ v w', Ext w w' → S w' → F m v w' → G (t + c m) w' → K' (a.put (some (D m)) v) w') →
   if Region.wanted o (yielded ops a.tmps) = true then Oper.wp P o a w K' Q else K' (a.put o.dst undef) w)
  (hend : ∀ (v : Nat → Value) w, (∀ m ∈ M, F m (v m) w) → G ((M.map c).foldl (· + ·) 0) w → S w → wpAnyF P md ops Q S f fuel0 (M.foldl (fun l m => l.setIfInBounds m true) L0) (M.foldl (fun a m => a.put (some (D m)) (v m)) A0) w)
  (hcl : closedB md ops L0 = true) (hG : G 0 w0) (hS : S w0) : wpAnyF P md ops Q S f (fuel0 + M.length) L0 A0 w0 := by
 refine wpAnyF_phase M D c F G Ext L0 A0 n fuel0 w0 hn hinj hD hsz (fun m hm => ?_) (fun m hm o ho e he hb => ?_) (fun i hi his hl m hm => ?_) hstab hc hop hend hcl hG hS
 ·
  have h1 := List.all_eq_true.1 h0 m hm
  cases ho : ops[m]? with
  | none => rw [ho] at h1; cases h1
  | some o =>
   rw [ho] at h1
   simp only [Bool.and_eq_true, decide_eq_true_eq, Bool.not_eq_true'] at h1
   exact ⟨o, rfl, h1.1, h1.2⟩
 ·
  have h1 := List.all_eq_true.1 htopo m hm
  rw [ho] at h1
  have h2 := Array.all_eq_true_iff_forall_mem.1 h1 e he
  rw [hb] at h2
  simp only [Bool.not_true, Bool.false_or, Bool.or_eq_true, Bool.and_eq_true, decide_eq_true_eq, List.contains_iff_mem] at h2
  exact h2
 ·
  have h1 := List.all_eq_true.1 hanc i (List.mem_range.2 his)
  rw [hl, Bool.false_or, Bool.or_eq_true] at h1
  rcases h1 with h1 | h1
  ·
   exact absurd (List.contains_iff_mem.1 h1) hi
  ·
   exact List.all_eq_true.1 h1 m hm
theorem wpAnyF_phaseBP (Pr : Value → Value → Prop) (M : List Nat) (D : Nat → Nat) (c : Nat → Int) (F : Nat → Value → World → Prop) (G : Int → World → Prop) (Ext : World → World → Prop) (L0 : Array Bool) (A0 : Act) (n fuel0 : Nat) (w0 : World)
  (hn : M.Nodup) (hinj : ∀ i ∈ M, ∀ j ∈ M, D i = D j → i = j) (hD : ∀ m ∈ M, D m < A0.tmps.size) (hsz : L0.size = ops.size)
  (h0 : opsB ops L0 M D = true) (htopo : topoB md ops L0 M = true) (hanc : restB md ops L0 M n = true)
  (hstab : ∀ j v w w', Ext w w' → F j v w → F j v w')
  (hc : ∀ m, 0 ≤ c m) (hop : ∀ m ∈ M, ∀ o, ops[m]? = some o → ∀ a w t (K' : Act → World → Prop), t + c m ≤ (M.map c).foldl (· + ·) 0 → S w → G t w → (∀ s, (∀ m ∈ M, D m ≠ s) → a.tmps.getD s undef = A0.tmps.getD s undef) →
   (∀ j ∈ M, predB md ops m j = true → F j (a.tmps.getD (D j) undef) w) → Shut (∀ v w', Ext w w' → S w' → F m v w' → G (t + c m) w' → (∀ j u, F j u w → Pr u v ∧ Pr v u) → K' (a.put (some (D m)) v) w') →
   if Region.wanted o (yielded ops a.tmps) = true then Oper.wp P o a w K' Q else K' (a.put o.dst undef) w)
  (hend : ∀ (v : Nat → Value) w, (∀ m ∈ M, F m (v m) w) → (∀ m ∈ M, ∀ j ∈ M, m ≠ j → Pr (v m) (v j)) → G ((M.map c).foldl (· + ·) 0) w → S w → wpAnyF P md ops Q S f fuel0 (M.foldl (fun l m => l.setIfInBounds m true) L0) (M.foldl (fun a m => a.put (some (D m)) (v m)) A0) w)
  (hcl : closedB md ops L0 = true) (hG : G 0 w0) (hS : S w0) : wpAnyF P md ops Q S f (fuel0 + M.length) L0 A0 w0 := by
 refine wpAnyF_phaseP Pr M D c F G Ext L0 A0 n fuel0 w0 hn hinj hD hsz (fun m hm => ?_) (fun m hm o ho e he hb => ?_) (fun i hi his hl m hm => ?_) hstab hc hop hend hcl hG hS
 ·
  have h1 := List.all_eq_true.1 h0 m hm
  cases ho : ops[m]? with
  | none => rw [ho] at h1; cases h1
  | some o =>
   rw [ho] at h1
   simp only [Bool.and_eq_true, decide_eq_true_eq, Bool.not_eq_true'] at h1
   exact ⟨o, rfl, h1.1, h1.2⟩
 ·
  have h1 := List.all_eq_true.1 htopo m hm
  rw [ho] at h1
  have h2 := Array.all_eq_true_iff_forall_mem.1 h1 e he
  rw [hb] at h2
  simp only [Bool.not_true, Bool.false_or, Bool.or_eq_true, Bool.and_eq_true, decide_eq_true_eq, List.contains_iff_mem] at h2
  exact h2
 ·
  have h1 := List.all_eq_true.1 hanc i (List.mem_range.2 his)
  rw [hl, Bool.false_or, Bool.or_eq_true] at h1
  rcases h1 with h1 | h1
  ·
   exact absurd (List.contains_iff_mem.1 h1) hi
  ·
   exact List.all_eq_true.1 h1 m hm
end
end Go.Proofs.YtldgphhiajhfhaaGreatDoor
