/- Matchings, plain; the searches of program and reference, and how many they find. -/
import Derived.Test.YtbfhcdnchmddeaaGreatDoorBase
import Derived.Test.YtbfhcdnchmddeaaGreatDoorGridQ
import Derived.Test.YtbfhcdnchmddeaaGreatDoorRiseK
import Derived.Test.YtbfhcdnchmddeaaGreatDoorGridW
import Derived.Test.YtbfhcdnchmddeaaGreatDoorReg
import Derived.Laws.EntriesVeiled
namespace Go.Proofs.YtbfhcdnchmddeaaGreatDoor
open Go.RowKit
set_option linter.unusedVariables false
set_option linter.unusedSimpArgs false

theorem nd_le {α : Type} [DecidableEq α] : ∀ (l m : List α), l.Nodup → (∀ x ∈ l, x ∈ m) → l.length ≤ m.length
 | [], _, _, _ => Nat.zero_le _
 | x :: l, m, h, hs => by
  rw [List.nodup_cons] at h
  have hx := hs x List.mem_cons_self
  have h1 := nd_le l (m.erase x) h.2 (fun y hy => (List.mem_erase_of_ne (fun e : y = x => h.1 (by rw [← e]; exact hy))).2 (hs y (List.mem_cons_of_mem _ hy)))
  rw [List.length_erase_of_mem hx] at h1
  have h2 := List.length_pos_of_mem hx
  rw [List.length_cons]; omega
/-- Pairs of a left and a right number, none twice on a side, all of them edges. -/
structure Mtch (E : Nat → Nat → Prop) (l : List (Nat × Nat)) : Prop where
 fst : (l.map (·.1)).Nodup
 snd : (l.map (·.2)).Nodup
 edge : ∀ q ∈ l, E q.1 q.2
/-- The largest number of pairs. -/
def MaxM (E : Nat → Nat → Prop) (n : Nat) : Prop := (∃ l, Mtch E l ∧ l.length = n) ∧ ∀ l, Mtch E l → l.length ≤ n
theorem MaxM.one {E : Nat → Nat → Prop} {n m : Nat} (h : MaxM E n) (k : MaxM E m) : n = m := by
 obtain ⟨⟨l, hl, rfl⟩, h2⟩ := h
 obtain ⟨⟨r, hr, rfl⟩, k2⟩ := k
 have := h2 r hr
 have := k2 l hl
 omega
theorem Mtch.flip {E : Nat → Nat → Prop} {l : List (Nat × Nat)} (h : Mtch E l) : Mtch (fun a b => E b a) (l.map (fun q => (q.2, q.1))) := by
 refine ⟨?_, ?_, ?_⟩
 ·
  rw [List.map_map]; exact h.snd
 ·
  rw [List.map_map]; exact h.fst
 ·
  intro q hq
  obtain ⟨x, hx, rfl⟩ := List.mem_map.1 hq
  exact h.edge x hx
theorem MaxM.flip {E : Nat → Nat → Prop} {n : Nat} (h : MaxM E n) : MaxM (fun a b => E b a) n := by
 obtain ⟨⟨l, hl, rfl⟩, h2⟩ := h
 refine ⟨⟨_, hl.flip, by rw [List.length_map]⟩, fun r hr => ?_⟩
 have := h2 _ hr.flip
 rwa [List.length_map] at this
theorem MaxM.same {E F : Nat → Nat → Prop} {n : Nat} (h : MaxM E n) (hE : ∀ a b, E a b ↔ F a b) : MaxM F n := by
 obtain ⟨⟨l, hl, rfl⟩, h2⟩ := h
 exact ⟨⟨l, ⟨hl.fst, hl.snd, fun q hq => (hE _ _).1 (hl.edge q hq)⟩, rfl⟩, fun r hr => h2 r ⟨hr.fst, hr.snd, fun q hq => (hE _ _).2 (hr.edge q hq)⟩⟩
/-- A set of right numbers that are all matched, so that every left one which is not matched, or matched into the set, has its neighbours in the set: then no matching is larger. -/
theorem maxM_of {E : Nat → Nat → Prop} (l : List (Nat × Nat)) (hl : Mtch E l) (S : Nat → Prop) (hS : ∀ r, S r → ∃ a, (a, r) ∈ l) (hc : ∀ a r, E a r → ¬ S r → ∃ r', (a, r') ∈ l ∧ ¬ S r') : MaxM E l.length := by
 refine ⟨⟨l, hl, rfl⟩, fun m hm => ?_⟩
 -- each pair of m goes to a matched right number
 have key : ∀ m : List (Nat × Nat), Mtch E m → ∃ t : List Nat, t.Nodup ∧ t.length = m.length ∧ ∀ r ∈ t, r ∈ l.map (·.2) ∧ ((S r ∧ ∃ a, (a, r) ∈ m) ∨ (¬ S r ∧ ∃ a r2, (a, r) ∈ l ∧ (a, r2) ∈ m)) := by
  intro m
  induction m with
  | nil => intro _; exact ⟨[], List.Pairwise.nil, rfl, fun r hr => by cases hr⟩
  | cons q m ih =>
   intro hm
   have h1 := hm.fst
   have h2 := hm.snd
   rw [List.map_cons, List.nodup_cons] at h1 h2
   obtain ⟨t, ht, htl, htm⟩ := ih ⟨h1.2, h2.2, fun x hx => hm.edge x (List.mem_cons_of_mem _ hx)⟩
   have he := hm.edge q List.mem_cons_self
   have up : ∀ r ∈ t, r ∈ l.map (·.2) ∧ ((S r ∧ ∃ a, (a, r) ∈ q :: m) ∨ (¬ S r ∧ ∃ a r2, (a, r) ∈ l ∧ (a, r2) ∈ q :: m)) := fun r hr => by
    obtain ⟨h3, h4⟩ := htm r hr
    refine ⟨h3, h4.imp (fun ⟨h5, a, h6⟩ => ⟨h5, a, List.mem_cons_of_mem _ h6⟩) (fun ⟨h5, a, r2, h6, h7⟩ => ⟨h5, a, r2, h6, List.mem_cons_of_mem _ h7⟩)⟩
   by_cases hs : S q.2
   ·
    obtain ⟨a, ha⟩ := hS _ hs
    refine ⟨q.2 :: t, List.nodup_cons.2 ⟨fun hmem => ?_, ht⟩, by rw [List.length_cons, List.length_cons, htl], fun r hr => ?_⟩
    ·
     rcases (htm _ hmem).2 with ⟨-, b, hb⟩ | ⟨hn, -⟩
     ·
      exact h2.1 (List.mem_map.2 ⟨_, hb, rfl⟩)
     ·
      exact hn hs
    ·
     rcases List.mem_cons.1 hr with rfl | hr
     ·
      exact ⟨List.mem_map.2 ⟨_, ha, rfl⟩, .inl ⟨hs, q.1, List.mem_cons_self⟩⟩
     ·
      exact up r hr
   ·
    obtain ⟨r', hr', hn⟩ := hc _ _ he hs
    refine ⟨r' :: t, List.nodup_cons.2 ⟨fun hmem => ?_, ht⟩, by rw [List.length_cons, List.length_cons, htl], fun r hr => ?_⟩
    ·
     rcases (htm _ hmem).2 with ⟨hs2, -⟩ | ⟨-, b, r2, hb, hb2⟩
     ·
      exact hn hs2
     ·
      have hq : b = q.1 := by
       have hnd := hl.snd
       obtain ⟨i, hi, ei⟩ := List.mem_iff_getElem.1 hb
       obtain ⟨j, hj, ej⟩ := List.mem_iff_getElem.1 hr'
       have hij : i = j := by
        refine (List.getElem_inj (h₀ := by rw [List.length_map]; exact hi) (h₁ := by rw [List.length_map]; exact hj) hnd).1 ?_
        rw [List.getElem_map, List.getElem_map, ei, ej]
       subst hij
       rw [ei] at ej
       exact (Prod.mk.inj ej).1
      rw [hq] at hb2
      exact h1.1 (List.mem_map.2 ⟨_, hb2, rfl⟩)
    ·
     rcases List.mem_cons.1 hr with rfl | hr
     ·
      exact ⟨List.mem_map.2 ⟨_, hr', rfl⟩, .inr ⟨hn, q.1, q.2, hr', List.mem_cons_self⟩⟩
     ·
      exact up r hr
 obtain ⟨t, ht, htl, htm⟩ := key m hm
 have h1 := nd_le t (l.map (·.2)) ht (fun r hr => (htm r hr).1)
 rw [List.length_map] at h1
 omega
def upd {α : Type} (f : Nat → α) (k : Nat) (v : α) : Nat → α := fun x => if x = k then v else f x
theorem upd_at {α : Type} (f : Nat → α) (k : Nat) (v : α) : upd f k v k = v := if_pos rfl
theorem upd_ne {α : Type} (f : Nat → α) {k x : Nat} (v : α) (h : x ≠ k) : upd f k v x = f x := if_neg h
/-- A search from a left number for a right one, where others can move: what it gives, who is matched then, what was seen. -/
inductive Srch (adj : Nat → List Nat) : Nat → List Nat → (Nat → Option Nat) → (Nat → Bool) → Bool → (Nat → Option Nat) → (Nat → Bool) → Prop
 | nil (c o s) : Srch adj c [] o s false o s
 | seen {c r l o s b o' s'} : s r = true → Srch adj c l o s b o' s' → Srch adj c (r :: l) o s b o' s'
 | free {c r l o s} : s r = false → o r = none → Srch adj c (r :: l) o s true (upd o r (some c)) (upd s r true)
 | move {c r l o s t o1 s1} : s r = false → o r = some t → Srch adj t (adj t) o (upd s r true) true o1 s1 → Srch adj c (r :: l) o s true (upd o1 r (some c)) s1
 | stay {c r l o s t o1 s1 b o' s'} : s r = false → o r = some t → Srch adj t (adj t) o (upd s r true) false o1 s1 → Srch adj c l o1 s1 b o' s' → Srch adj c (r :: l) o s b o' s'
/-- A search that finds nothing leaves all as it was; what it saw is matched, and its partners' neighbours were all seen. -/
theorem Srch.fail {adj : Nat → List Nat} {c : Nat} {l : List Nat} {o o' : Nat → Option Nat} {s s' : Nat → Bool} {b : Bool} (h : Srch adj c l o s b o' s') : b = false → o' = o ∧ (∀ r, s r = true → s' r = true) ∧ (∀ r ∈ l, s' r = true) ∧ ∀ r, s' r = true → s r = false → ∃ t, o r = some t ∧ ∀ r2 ∈ adj t, s' r2 = true := by
 induction h with
 | nil c o s => exact fun _ => ⟨rfl, fun _ h => h, (fun r hr => by cases hr), (fun r h1 h2 => by rw [h1] at h2; cases h2)⟩
 | seen h1 h2 ih =>
  intro hb
  obtain ⟨e, m1, m2, m3⟩ := ih hb
  exact ⟨e, m1, fun r hr => (List.mem_cons.1 hr).elim (fun e => by rw [e]; exact m1 _ h1) (m2 r), m3⟩
 | free h1 h2 => intro hb; cases hb
 | move h1 h2 h3 ih => intro hb; cases hb
 | @stay c r l o s t o1 s1 b o' s' h1 h2 h3 h4 ih3 ih4 =>
  intro hb
  obtain ⟨rfl, a1, a2, a3⟩ := ih3 rfl
  obtain ⟨rfl, b1, b2, b3⟩ := ih4 hb
  have hr : s1 r = true := a1 r (upd_at _ _ _)
  have hm : ∀ x, s x = true → s1 x = true := fun x hx => a1 x (by
   by_cases e : x = r
   ·
    rw [e]; exact upd_at _ _ _
   ·
    rw [upd_ne _ _ e]; exact hx)
  refine ⟨rfl, fun x hx => b1 x (hm x hx), fun x hx => (List.mem_cons.1 hx).elim (fun e => by rw [e]; exact b1 r hr) (b2 x), fun x hx hn => ?_⟩
  by_cases e1 : s1 x = true
  ·
   by_cases e : x = r
   ·
    subst e
    exact ⟨t, h2, fun r2 h => b1 r2 (a2 r2 h)⟩
   ·
    obtain ⟨t2, ht2, h5⟩ := a3 x e1 (by rw [upd_ne _ _ e]; exact hn)
    exact ⟨t2, ht2, fun r2 h => b1 r2 (h5 r2 h)⟩
  ·
   exact b3 x hx (by simpa using e1)
/-- What a search that finds one does. -/
structure Win (adj : Nat → List Nat) (c : Nat) (o : Nat → Option Nat) (s : Nat → Bool) (o' : Nat → Option Nat) (s' : Nat → Bool) : Prop where
 more : ∀ r, s r = true → s' r = true
 keep : ∀ r, s r = true → o' r = o r
 got : ∃ r, s r = false ∧ o' r = some c
 uniq : ∀ a b x, x ≠ c → o' a = some x → o' b = some x → a = b
 own : ∀ a b, o' a = some c → o' b = some c → s a = false → s b = false → a = b
 left : ∀ x, x ≠ c → (∃ r, o r = some x) → ∃ r, o' r = some x
 from_ : ∀ x r, o' r = some x → x = c ∨ ∃ q, o q = some x
 edge : ∀ x r, o' r = some x → o r = some x ∨ r ∈ adj x
 one : ∃ q, o q = none ∧ ∀ r, o' r = none ↔ (o r = none ∧ r ≠ q)
theorem Srch.win {adj : Nat → List Nat} {c : Nat} {l : List Nat} {o o' : Nat → Option Nat} {s s' : Nat → Bool} {b : Bool} (h : Srch adj c l o s b o' s') : b = true → (∀ a a' x, o a = some x → o a' = some x → a = a') → (∀ a, o a = some c → s a = true) → (∀ a ∈ l, a ∈ adj c) → Win adj c o s o' s' := by
 induction h with
 | nil c o s => intro hb; cases hb
 | seen h1 h2 ih => intro hb hu hc hl; exact ih hb hu hc (fun a ha => hl a (List.mem_cons_of_mem _ ha))
 | @free c r l o s h1 h2 =>
  intro hb hu hc hl
  have hne : ∀ a, s a = true → a ≠ r := fun a ha e => by rw [e, h1] at ha; cases ha
  have hoc : ∀ a, a ≠ r → upd o r (some c) a = o a := fun a ha => upd_ne _ _ ha
  have hat : upd o r (some c) r = some c := upd_at _ _ _
  refine ⟨fun a ha => by rw [upd_ne _ _ (hne a ha)]; exact ha, fun a ha => hoc a (hne a ha), ⟨r, h1, hat⟩, ?_, ?_, ?_, ?_, ?_, ⟨r, h2, fun a => ?_⟩⟩
  ·
   intro a b x hx ha hb
   have h3 : a ≠ r := fun e => by rw [e, hat] at ha; exact hx (Option.some.inj ha).symm
   have h4 : b ≠ r := fun e => by rw [e, hat] at hb; exact hx (Option.some.inj hb).symm
   rw [hoc a h3] at ha
   rw [hoc b h4] at hb
   exact hu a b x ha hb
  ·
   have one : ∀ a, upd o r (some c) a = some c → s a = false → a = r := fun a ha hs => by
    apply Classical.byContradiction
    intro e
    rw [hoc a e] at ha
    rw [hc a ha] at hs; cases hs
   intro a b ha hb hsa hsb
   rw [one a ha hsa, one b hb hsb]
  ·
   rintro x hx ⟨a, ha⟩
   exact ⟨a, by rw [hoc a (fun e => by rw [e, h2] at ha; cases ha)]; exact ha⟩
  ·
   intro x a ha
   by_cases e : a = r
   ·
    rw [e, hat] at ha; exact .inl (Option.some.inj ha).symm
   ·
    rw [hoc a e] at ha; exact .inr ⟨a, ha⟩
  ·
   intro x a ha
   by_cases e : a = r
   ·
    rw [e, hat] at ha
    rw [e, ← Option.some.inj ha]
    exact .inr (hl r List.mem_cons_self)
   ·
    rw [hoc a e] at ha; exact .inl ha
  ·
   by_cases e : a = r
   ·
    rw [e, hat]; simp
   ·
    rw [hoc a e]; simp [e]
 | @move c r l o s t o1 s1 h1 h2 h3 ih =>
  intro hb hu hc hl
  have hct : t ≠ c := fun e => by rw [e] at h2; rw [hc r h2] at h1; cases h1
  have w := ih rfl hu (fun a ha => by rw [hu a r t ha h2]; exact upd_at _ _ _) (fun a ha => ha)
  have hsm : ∀ a, s a = true → upd s r true a = true := fun a ha => by
   by_cases e : a = r
   ·
    rw [e]; exact upd_at _ _ _
   ·
    rw [upd_ne _ _ e]; exact ha
  have hne : ∀ a, s a = true → a ≠ r := fun a ha e => by rw [e, h1] at ha; cases ha
  have hoc : ∀ a, a ≠ r → upd o1 r (some c) a = o1 a := fun a ha => upd_ne _ _ ha
  have hat : upd o1 r (some c) r = some c := upd_at _ _ _
  have hr1 : o1 r = some t := by rw [w.keep r (upd_at _ _ _)]; exact h2
  have unseen : ∀ a, a ≠ r → o1 a = some t → upd s r true a = false := fun a ha hta => by
   cases hs : upd s r true a
   ·
    rfl
   ·
    rw [w.keep a hs] at hta
    exact absurd (hu a r t hta h2) ha
  refine ⟨fun a ha => w.more a (hsm a ha), fun a ha => by rw [hoc a (hne a ha)]; exact w.keep a (hsm a ha), ⟨r, h1, hat⟩, ?_, ?_, ?_, ?_, ?_, ?_⟩
  ·
   intro a b x hx ha hb
   have h4 : a ≠ r := fun e => by rw [e, hat] at ha; exact hx (Option.some.inj ha).symm
   have h5 : b ≠ r := fun e => by rw [e, hat] at hb; exact hx (Option.some.inj hb).symm
   rw [hoc a h4] at ha
   rw [hoc b h5] at hb
   by_cases e : x = t
   ·
    subst e
    exact w.own a b ha hb (unseen a h4 ha) (unseen b h5 hb)
   ·
    exact w.uniq a b x e ha hb
  ·
   have one : ∀ a, upd o1 r (some c) a = some c → s a = false → a = r := fun a ha hs => by
    apply Classical.byContradiction
    intro e
    rw [hoc a e] at ha
    rcases w.from_ c a ha with h4 | ⟨q, hq⟩
    ·
     exact hct h4.symm
    ·
     have h5 := hc q hq
     have h6 : o1 q = some c := by rw [w.keep q (hsm q h5)]; exact hq
     rw [w.uniq a q c (fun e => hct e.symm) ha h6, h5] at hs
     cases hs
   intro a b ha hb hsa hsb
   rw [one a ha hsa, one b hb hsb]
  ·
   rintro x hx hex
   by_cases e : x = t
   ·
    obtain ⟨q, hq1, hq2⟩ := w.got
    have hqr : q ≠ r := fun e => by rw [e, upd_at] at hq1; cases hq1
    exact ⟨q, by rw [hoc q hqr, e]; exact hq2⟩
   ·
    obtain ⟨q, hq⟩ := w.left x e hex
    have hqr : q ≠ r := fun e2 => by rw [e2, hr1] at hq; exact e (Option.some.inj hq).symm
    exact ⟨q, by rw [hoc q hqr]; exact hq⟩
  ·
   intro x a ha
   by_cases e : a = r
   ·
    rw [e, hat] at ha; exact .inl (Option.some.inj ha).symm
   ·
    rw [hoc a e] at ha
    rcases w.from_ x a ha with h4 | h4
    ·
     rw [h4]; exact .inr ⟨r, h2⟩
    ·
     exact .inr h4
  ·
   intro x a ha
   by_cases e : a = r
   ·
    rw [e, hat] at ha
    rw [e, ← Option.some.inj ha]
    exact .inr (hl r List.mem_cons_self)
   ·
    rw [hoc a e] at ha; exact w.edge x a ha
  ·
   obtain ⟨q, hq, hall⟩ := w.one
   refine ⟨q, hq, fun a => ?_⟩
   by_cases e : a = r
   ·
    rw [e, hat, h2]; simp
   ·
    rw [hoc a e]; exact hall a
 | @stay c r l o s t o1 s1 b o' s' h1 h2 h3 h4 ih3 ih4 =>
  intro hb hu hc hl
  obtain ⟨rfl, a1, a2, a3⟩ := h3.fail rfl
  have hm : ∀ x, s x = true → s1 x = true := fun x hx => a1 x (by
   by_cases e : x = r
   ·
    rw [e]; exact upd_at _ _ _
   ·
    rw [upd_ne _ _ e]; exact hx)
  have w := ih4 hb hu (fun a ha => hm a (hc a ha)) (fun a ha => hl a (List.mem_cons_of_mem _ ha))
  have hf : ∀ a, s1 a = false → s a = false := fun a ha => by
   cases hs : s a
   ·
    rfl
   ·
    rw [hm a hs] at ha; cases ha
  have back : ∀ a, o' a = some c → s a = false → s1 a = false := fun a ha hs => by
   cases h5 : s1 a
   ·
    rfl
   ·
    rw [w.keep a h5] at ha
    rw [hc a ha] at hs; cases hs
  obtain ⟨q, hq1, hq2⟩ := w.got
  exact ⟨fun a ha => w.more a (hm a ha), fun a ha => w.keep a (hm a ha), ⟨q, hf q hq1, hq2⟩, w.uniq, fun a b ha hb hsa hsb => w.own a b ha hb (back a ha hsa) (back b hb hsb), w.left, w.from_, w.edge, w.one⟩
/-- All of the set are matched, and their partners' neighbours are in it. -/
def Clsd (adj : Nat → List Nat) (o : Nat → Option Nat) (S : Nat → Prop) : Prop := ∀ r, S r → ∃ t, o r = some t ∧ ∀ q ∈ adj t, S q
theorem Srch.inside {adj : Nat → List Nat} {S : Nat → Prop} {c : Nat} {l : List Nat} {o o' : Nat → Option Nat} {s s' : Nat → Bool} {b : Bool} (h : Srch adj c l o s b o' s') : Clsd adj o S → (∀ r ∈ l, S r) → b = false := by
 induction h with
 | nil c o s => intro _ _; rfl
 | seen h1 h2 ih => intro hS hl; exact ih hS (fun a ha => hl a (List.mem_cons_of_mem _ ha))
 | @free c r l o s h1 h2 =>
  intro hS hl
  obtain ⟨t, ht, -⟩ := hS r (hl r List.mem_cons_self)
  rw [h2] at ht; cases ht
 | @move c r l o s t o1 s1 h1 h2 h3 ih =>
  intro hS hl
  obtain ⟨t', ht, h4⟩ := hS r (hl r List.mem_cons_self)
  rw [h2] at ht
  obtain rfl := Option.some.inj ht
  exact ih hS h4
 | @stay c r l o s t o1 s1 b o' s' h1 h2 h3 h4 ih3 ih4 =>
  intro hS hl
  obtain ⟨rfl, -⟩ := h3.fail rfl
  exact ih4 hS (fun a ha => hl a (List.mem_cons_of_mem _ ha))
theorem Srch.same {adj : Nat → List Nat} {S : Nat → Prop} {c : Nat} {l : List Nat} {o o' : Nat → Option Nat} {s s' : Nat → Bool} {b : Bool} (h : Srch adj c l o s b o' s') : Clsd adj o S → ∀ r, S r → o' r = o r := by
 induction h with
 | nil c o s => intro _ _ _; rfl
 | seen h1 h2 ih => intro hS; exact ih hS
 | @free c r l o s h1 h2 =>
  intro hS a ha
  obtain ⟨t, ht, -⟩ := hS a ha
  exact upd_ne _ _ (fun e => by rw [e, h2] at ht; cases ht)
 | @move c r l o s t o1 s1 h1 h2 h3 ih =>
  intro hS a ha
  have hne : a ≠ r := fun e => by
   rw [e] at ha
   obtain ⟨t', ht, h4⟩ := hS r ha
   rw [h2] at ht
   obtain rfl := Option.some.inj ht
   exact absurd (h3.inside hS h4) (by decide)
  rw [upd_ne _ _ hne]
  exact ih hS a ha
 | @stay c r l o s t o1 s1 b o' s' h1 h2 h3 h4 ih3 ih4 =>
  intro hS
  obtain ⟨rfl, -⟩ := h3.fail rfl
  exact ih4 hS
/-- One search from each left number. -/
inductive Runs (adj : Nat → List Nat) : List Nat → (Nat → Option Nat) → Nat → Prop
 | nil : Runs adj [] (fun _ => none) 0
 | snoc {cs o n c b o' s'} : Runs adj cs o n → Srch adj c (adj c) o (fun _ => false) b o' s' → Runs adj (cs ++ [c]) o' (if b then n + 1 else n)
structure RInv (adj : Nat → List Nat) (cs : List Nat) (o : Nat → Option Nat) (n : Nat) : Prop where
 uniq : ∀ a b x, o a = some x → o b = some x → a = b
 from_ : ∀ r x, o r = some x → x ∈ cs ∧ r ∈ adj x
 set : ∃ S : Nat → Prop, (∀ r, S r → o r ≠ none) ∧ ∀ a ∈ cs, (∀ r, o r = some a → S r) → ∀ r ∈ adj a, S r
 rights : ∃ R : List Nat, R.Nodup ∧ R.length = n ∧ ∀ r, r ∈ R ↔ o r ≠ none
theorem Runs.inv {adj : Nat → List Nat} {cs : List Nat} {o : Nat → Option Nat} {n : Nat} (h : Runs adj cs o n) : cs.Nodup → RInv adj cs o n := by
 induction h with
 | nil => exact fun _ => ⟨fun a b x h => (by cases h), fun r x h => (by cases h), ⟨fun _ => False, fun _ h => h.elim, fun a ha => by cases ha⟩, ⟨[], List.Pairwise.nil, rfl, fun r => by simp⟩⟩
 | @snoc cs o n c b o' s' h1 h2 ih =>
  intro hn
  have hnn := List.pairwise_append.1 hn
  have hcc : c ∉ cs := fun hm => hnn.2.2 c hm c List.mem_cons_self rfl
  have v := ih hnn.1
  have hoc : ∀ a, o a ≠ some c := fun a ha => hcc (v.from_ a c ha).1
  obtain ⟨S, hS1, hS2⟩ := v.set
  obtain ⟨R, hR1, hR2, hR3⟩ := v.rights
  have hcl : Clsd adj o S := fun r hr => by
   cases ht : o r with
   | none => exact absurd ht (hS1 r hr)
   | some t => exact ⟨t, rfl, hS2 t (v.from_ r t ht).1 (fun q hq => by rw [v.uniq q r t hq ht]; exact hr)⟩
  cases b
  ·
   obtain ⟨rfl, m1, m2, m3⟩ := h2.fail rfl
   refine ⟨v.uniq, fun r x hx => ⟨List.mem_append.2 (.inl (v.from_ r x hx).1), (v.from_ r x hx).2⟩, ⟨fun r => S r ∨ s' r = true, fun r hr => ?_, fun a ha hall r hr => ?_⟩, ⟨R, hR1, hR2, hR3⟩⟩
   ·
    rcases hr with hr | hr
    ·
     exact hS1 r hr
    ·
     obtain ⟨t, ht, -⟩ := m3 r hr rfl
     rw [ht]; simp
   ·
    rcases List.mem_append.1 ha with ha | ha
    ·
     by_cases hin : ∀ q, o' q = some a → S q
     ·
      exact .inl (hS2 a ha hin r hr)
     ·
      obtain ⟨q, hq⟩ := Classical.not_forall.1 hin
      obtain ⟨hq1, hq2⟩ := Classical.not_imp.1 hq
      obtain ⟨t, ht, h4⟩ := m3 q ((hall q hq1).resolve_left hq2) rfl
      rw [hq1] at ht
      obtain rfl := Option.some.inj ht
      exact .inr (h4 r hr)
    ·
     rw [List.mem_singleton.1 ha] at hr
     exact .inr (m2 r hr)
  ·
   have w := h2.win rfl v.uniq (fun a ha => absurd ha (hoc a)) (fun a ha => ha)
   have hsame := h2.same hcl
   obtain ⟨q, hq, hq2⟩ := w.one
   refine ⟨fun a b x ha hb => ?_, fun r x hx => ?_, ⟨S, fun r hr => by rw [hsame r hr]; exact hS1 r hr, fun a ha hall r hr => ?_⟩, ⟨q :: R, List.nodup_cons.2 ⟨fun hm => (hR3 q).1 hm hq, hR1⟩, by rw [List.length_cons, hR2]; rfl, fun r => ?_⟩⟩
   ·
    by_cases e : x = c
    ·
     subst e; exact w.own a b ha hb rfl rfl
    ·
     exact w.uniq a b x e ha hb
   ·
    refine ⟨?_, ?_⟩
    ·
     rcases w.from_ x r hx with e | ⟨q, hq⟩
     ·
      rw [e]; exact List.mem_append.2 (.inr List.mem_cons_self)
     ·
      exact List.mem_append.2 (.inl (v.from_ q x hq).1)
    ·
     rcases w.edge x r hx with h4 | h4
     ·
      exact (v.from_ r x h4).2
     ·
      exact h4
   ·
    rcases List.mem_append.1 ha with ha | ha
    ·
     have hac : a ≠ c := fun e => hcc (e ▸ ha)
     refine hS2 a ha (fun r0 hr0 => ?_) r hr
     obtain ⟨r', hr'⟩ := w.left a hac ⟨r0, hr0⟩
     have h5 := hall r' hr'
     rw [hsame r' h5] at hr'
     rw [v.uniq r0 r' a hr0 hr']; exact h5
    ·
     obtain rfl := List.mem_singleton.1 ha
     obtain ⟨q1, -, hq1⟩ := w.got
     have h5 := hall q1 hq1
     rw [hsame q1 h5] at hq1
     exact absurd hq1 (hoc q1)
   ·
    rw [List.mem_cons, hR3]
    have h6 := hq2 r
    constructor
    ·
     rintro (e | h7)
     ·
      intro h8; exact (h6.1 h8).2 e
     ·
      intro h8; exact h7 (h6.1 h8).1
    ·
     intro h7
     by_cases e : r = q
     ·
      exact .inl e
     ·
      exact .inr (fun h8 => h7 (h6.2 ⟨h8, e⟩))
/-- So many are found as can be. -/
theorem Runs.max {adj : Nat → List Nat} {cs : List Nat} {o : Nat → Option Nat} {n : Nat} (h : Runs adj cs o n) (hn : cs.Nodup) : MaxM (fun a r => a ∈ cs ∧ r ∈ adj a) n := by
 have v := h.inv hn
 obtain ⟨S, hS1, hS2⟩ := v.set
 obtain ⟨R, hR1, rfl, hR3⟩ := v.rights
 have hm : ∀ a r, (a, r) ∈ R.map (fun r => ((o r).getD 0, r)) ↔ o r = some a := fun a r => by
  rw [List.mem_map]
  constructor
  ·
   rintro ⟨x, hx, e⟩
   obtain ⟨rfl, rfl⟩ := Prod.mk.inj e
   cases ho : o x with
   | none => exact absurd ho ((hR3 x).1 hx)
   | some t => rfl
  ·
   intro ho
   exact ⟨r, (hR3 r).2 (by rw [ho]; simp), by rw [ho]; rfl⟩
 have h1 := maxM_of (E := fun a r => a ∈ cs ∧ r ∈ adj a) (R.map (fun r => ((o r).getD 0, r))) ⟨?_, ?_, ?_⟩ S ?_ ?_
 ·
  rwa [List.length_map] at h1
 ·
  rw [List.map_map]
  unfold List.Nodup
  rw [List.pairwise_map]
  refine List.Pairwise.imp_of_mem ?_ hR1
  intro a b ha hb hab e
  refine hab ?_
  cases hoa : o a with
  | none => exact absurd hoa ((hR3 a).1 ha)
  | some t =>
   cases hob : o b with
   | none => exact absurd hob ((hR3 b).1 hb)
   | some t' =>
    simp only [Function.comp, hoa, hob, Option.getD_some] at e
    rw [← e] at hob
    exact v.uniq a b t hoa hob
 ·
  rw [List.map_map]
  have : R.map ((fun q : Nat × Nat => q.2) ∘ fun r => ((o r).getD 0, r)) = R := by
   have h2 : ((fun q : Nat × Nat => q.2) ∘ fun r => ((o r).getD 0, r)) = id := rfl
   rw [h2, List.map_id]
  rw [this]; exact hR1
 ·
  rintro ⟨a, r⟩ hq
  exact v.from_ r a ((hm a r).1 hq)
 ·
  intro r hr
  cases ho : o r with
  | none => exact absurd ho (hS1 r hr)
  | some t => exact ⟨t, (hm t r).2 ho⟩
 ·
  rintro a r ⟨ha, hr⟩ hs
  apply Classical.byContradiction
  intro hno
  refine hs (hS2 a ha (fun q hq => ?_) r hr)
  apply Classical.byContradiction
  intro hq2
  exact hno ⟨q, (hm a q).2 hq, hq2⟩
theorem mtch_len {E : Nat → Nat → Prop} {N : Nat} (hE : ∀ a b, E a b → b < N) {l : List (Nat × Nat)} (h : Mtch E l) : l.length ≤ N := by
 have := nd_le (l.map (·.2)) (List.range N) h.snd (fun x hx => by
  obtain ⟨q, hq, rfl⟩ := List.mem_map.1 hx
  exact List.mem_range.2 (hE _ _ (h.edge q hq)))
 rwa [List.length_map, List.length_range] at this
theorem maxM_ex {E : Nat → Nat → Prop} {N : Nat} (hE : ∀ a b, E a b → b < N) : ∃ n, MaxM E n := by
 have key : ∀ k n, N ≤ n + k → (∃ l, Mtch E l ∧ l.length = n) → ∃ m, MaxM E m := by
  intro k
  induction k with
  | zero =>
   rintro n hn ⟨l, hl, hln⟩
   exact ⟨n, ⟨l, hl, hln⟩, fun r hr => by have := mtch_len hE hr; omega⟩
  | succ k ih =>
   intro n hn hex
   by_cases h : ∃ r, Mtch E r ∧ n < r.length
   ·
    obtain ⟨r, hr, hlt⟩ := h
    exact ih r.length (by omega) ⟨r, hr, rfl⟩
   ·
    exact ⟨n, hex, fun r hr => Nat.le_of_not_lt (fun hlt => h ⟨r, hr, hlt⟩)⟩
 exact key N 0 (by omega) ⟨[], ⟨List.Pairwise.nil, List.Pairwise.nil, fun q hq => by cases hq⟩, rfl⟩
/-- Who can chair what: chairs that are not used, sessions from a number on. -/
def Edg (can : Nat → Nat → Bool) (nc ns : Nat) (used : Nat → Bool) (k : Nat) : Nat → Nat → Prop := fun c s => c < nc ∧ s < ns ∧ k ≤ s ∧ used c = false ∧ can s c = true
/-- A function that tells how many can be paired at most. -/
def IsMost (can : Nat → Nat → Bool) (nc ns : Nat) (mst : (Nat → Bool) → Nat → Nat) : Prop := ∀ used k, MaxM (Edg can nc ns used k) (mst used k)
theorem most_ex (can : Nat → Nat → Bool) (nc ns : Nat) : ∃ mst, IsMost can nc ns mst := by
 have h : ∀ (used : Nat → Bool) (k : Nat), ∃ n, MaxM (Edg can nc ns used k) n := fun used k => maxM_ex (N := ns) (fun a b h => h.2.1)
 exact ⟨fun used k => (h used k).choose, fun used k => (h used k).choose_spec⟩
theorem most_le {can : Nat → Nat → Bool} {nc ns : Nat} {mst : (Nat → Bool) → Nat → Nat} (h : IsMost can nc ns mst) (used : Nat → Bool) (k : Nat) : mst used k ≤ ns := by
 obtain ⟨⟨l, hl, e⟩, -⟩ := h used k
 rw [← e]
 exact mtch_len (fun a b h => h.2.1) hl
/-- What was chosen for the first sessions: who is used, how many more there can be, the pairs of session and chair. -/
def chBest (can : Nat → Nat → Bool) (nc : Nat) (mst : (Nat → Bool) → Nat → Nat) (k : Nat) (used : Nat → Bool) (left : Nat) : Option Nat :=
 (List.range nc).find? (fun c => can k c && (!used c && decide (mst (upd used c true) (k + 1) + 1 = left)))
def chTo (can : Nat → Nat → Bool) (nc : Nat) (mst : (Nat → Bool) → Nat → Nat) : Nat → (Nat → Bool) × Nat × List (Nat × Nat)
 | 0 => (fun _ => false, mst (fun _ => false) 0, [])
 | k + 1 => match chBest can nc mst k (chTo can nc mst k).1 (chTo can nc mst k).2.1 with
  | none => chTo can nc mst k
  | some c => (upd (chTo can nc mst k).1 c true, (chTo can nc mst k).2.1 - 1, (chTo can nc mst k).2.2 ++ [(k, c)])
theorem chTo_none {can : Nat → Nat → Bool} {nc : Nat} {mst : (Nat → Bool) → Nat → Nat} {k : Nat} (h : chBest can nc mst k (chTo can nc mst k).1 (chTo can nc mst k).2.1 = none) : chTo can nc mst (k + 1) = chTo can nc mst k := by
 show (match chBest can nc mst k (chTo can nc mst k).1 (chTo can nc mst k).2.1 with
  | none => _
  | some c => _) = _
 rw [h]
theorem chTo_some {can : Nat → Nat → Bool} {nc : Nat} {mst : (Nat → Bool) → Nat → Nat} {k c : Nat} (h : chBest can nc mst k (chTo can nc mst k).1 (chTo can nc mst k).2.1 = some c) : chTo can nc mst (k + 1) = (upd (chTo can nc mst k).1 c true, (chTo can nc mst k).2.1 - 1, (chTo can nc mst k).2.2 ++ [(k, c)]) := by
 show (match chBest can nc mst k (chTo can nc mst k).1 (chTo can nc mst k).2.1 with
  | none => _
  | some c => _) = _
 rw [h]
theorem chTo_len (can : Nat → Nat → Bool) (nc : Nat) (mst : (Nat → Bool) → Nat → Nat) : ∀ k, (chTo can nc mst k).2.2.length ≤ k
 | 0 => Nat.le_refl _
 | k + 1 => by
  have ih := chTo_len can nc mst k
  cases h : chBest can nc mst k (chTo can nc mst k).1 (chTo can nc mst k).2.1 with
  | none => rw [chTo_none h]; omega
  | some c => rw [chTo_some h]; show ((chTo can nc mst k).2.2 ++ [(k, c)]).length ≤ _; rw [List.length_append, List.length_singleton]; omega
theorem chTo_left (can : Nat → Nat → Bool) (nc : Nat) (mst : (Nat → Bool) → Nat → Nat) {N : Nat} (h0 : mst (fun _ => false) 0 ≤ N) : ∀ k, (chTo can nc mst k).2.1 ≤ N
 | 0 => h0
 | k + 1 => by
  have ih := chTo_left can nc mst h0 k
  cases h : chBest can nc mst k (chTo can nc mst k).1 (chTo can nc mst k).2.1 with
  | none => rw [chTo_none h]; exact ih
  | some c => rw [chTo_some h]; show _ - 1 ≤ _; omega

/-! The search's state: values of a row of numbers, and of a row of bools. -/
def unseen (n : Nat) (s : Nat → Bool) : Nat := ((List.range n).filter (fun r => !s r)).length
theorem unseen_mono {n : Nat} {s s' : Nat → Bool} (h : ∀ r, s r = true → s' r = true) : unseen n s' ≤ unseen n s := by
 unfold unseen
 refine nd_le _ _ (List.nodup_range.filter _) (fun x hx => ?_)
 rw [List.mem_filter] at hx ⊢
 refine ⟨hx.1, ?_⟩
 cases hs : s x
 ·
  rfl
 ·
  rw [h x hs] at hx; simp at hx
theorem unseen_upd {n r : Nat} {s : Nat → Bool} (hr : r < n) (h : s r = false) : unseen n (upd s r true) < unseen n s := by
 unfold unseen
 have h1 := nd_le (r :: (List.range n).filter (fun x => !upd s r true x)) ((List.range n).filter (fun x => !s x)) (List.nodup_cons.2 ⟨fun hm => by
  rw [List.mem_filter, upd_at] at hm; simp at hm, List.nodup_range.filter _⟩) (fun x hx => by
  rw [List.mem_filter, List.mem_range]
  rcases List.mem_cons.1 hx with rfl | hx
  ·
   exact ⟨hr, by rw [h]; rfl⟩
  ·
   rw [List.mem_filter, List.mem_range] at hx
   refine ⟨hx.1, ?_⟩
   by_cases e : x = r
   ·
    rw [e, h]; rfl
   ·
    have := hx.2; rwa [upd_ne _ _ e] at this)
 rw [List.length_cons] at h1
 omega
theorem unseen_pos {n r : Nat} {s : Nat → Bool} (hr : r < n) (h : s r = false) : 0 < unseen n s := by
 have := unseen_upd hr h
 omega
/-- A search only sees more. -/
theorem Srch.more {adj : Nat → List Nat} {c : Nat} {l : List Nat} {o o' : Nat → Option Nat} {s s' : Nat → Bool} {b : Bool} (h : Srch adj c l o s b o' s') : ∀ r, s r = true → s' r = true := by
 have up : ∀ (s : Nat → Bool) (r x : Nat), s x = true → upd s r true x = true := fun s r x hx => by
  by_cases e : x = r
  ·
   rw [e]; exact upd_at _ _ _
  ·
   rw [upd_ne _ _ e]; exact hx
 induction h with
 | nil c o s => exact fun r h => h
 | seen h1 h2 ih => exact ih
 | free h1 h2 => exact fun r h => up _ _ _ h
 | move h1 h2 h3 ih => exact fun r h => ih r (up _ _ _ h)
 | stay h1 h2 h3 h4 ih3 ih4 => exact fun r h => ih4 r (ih3 r (up _ _ _ h))
/-- What was seen ahead of a search is not moved. -/
theorem Srch.kept {adj : Nat → List Nat} {c : Nat} {l : List Nat} {o o' : Nat → Option Nat} {s s' : Nat → Bool} {b : Bool} (h : Srch adj c l o s b o' s') : ∀ r, s r = true → o' r = o r := by
 have up : ∀ (s : Nat → Bool) (r x : Nat), s x = true → upd s r true x = true := fun s r x hx => by
  by_cases e : x = r
  ·
   rw [e]; exact upd_at _ _ _
  ·
   rw [upd_ne _ _ e]; exact hx
 have ne : ∀ (s : Nat → Bool) (r x : Nat), s r = false → s x = true → x ≠ r := fun s r x h1 h2 e => by rw [e, h1] at h2; cases h2
 induction h with
 | nil c o s => exact fun r h => rfl
 | seen h1 h2 ih => exact ih
 | free h1 h2 => exact fun r h => upd_ne _ _ (ne _ _ _ h1 h)
 | move h1 h2 h3 ih => exact fun r h => by rw [upd_ne _ _ (ne _ _ _ h1 h)]; exact ih r (up _ _ _ h)
 | stay h1 h2 h3 h4 ih3 ih4 => exact fun r h => by rw [ih4 r (h3.more r (up _ _ _ h))]; exact ih3 r (up _ _ _ h)
/-- Cells that a function tells. -/
def cellsF {α : Type} (enc : α → Value) (f : Nat → α) (n : Nat) : Array Value := ((List.range n).map (fun i => enc (f i))).toArray
theorem cellsF_size {α : Type} (enc : α → Value) (f : Nat → α) (n : Nat) : (cellsF enc f n).size = n := by
 unfold cellsF
 rw [List.size_toArray, List.length_map, List.length_range]
theorem cellsF_get {α : Type} (enc : α → Value) (f : Nat → α) {n i : Nat} (h : i < n) : (cellsF enc f n)[i]? = some (enc (f i)) := by
 unfold cellsF
 rw [List.getElem?_toArray, List.getElem?_map, List.getElem?_range h]
 rfl
theorem cellsF_set {α : Type} (enc : α → Value) (f : Nat → α) (n i : Nat) (v : α) : (cellsF enc f n).setIfInBounds i (enc v) = cellsF enc (upd f i v) n := by
 apply Array.ext_getElem?
 intro j
 by_cases hj : j < n
 ·
  rw [cellsF_get _ _ hj, Array.getElem?_setIfInBounds]
  by_cases e : i = j
  ·
   subst e
   rw [if_pos rfl, if_pos (by rw [cellsF_size]; exact hj), upd_at]
  ·
   rw [if_neg e, cellsF_get _ _ hj, upd_ne _ _ (fun h => e h.symm)]
 ·
  rw [Array.getElem?_eq_none (by rw [Array.size_setIfInBounds, cellsF_size]; omega), Array.getElem?_eq_none (by rw [cellsF_size]; omega)]
theorem cellsF_rep {α : Type} (enc : α → Value) (v : α) (n : Nat) : cellsF enc (fun _ => v) n = Array.replicate n (enc v) := by
 unfold cellsF
 rw [← Array.toList_inj, Array.toList_replicate]
 show List.map _ _ = _
 rw [List.map_const', List.length_range]
theorem cellsF_congr {α : Type} (enc : α → Value) {f g : Nat → α} {n : Nat} (h : ∀ i, i < n → f i = g i) : cellsF enc f n = cellsF enc g n := by
 unfold cellsF
 congr 1
 exact List.map_congr_left (fun i hi => by rw [h i (List.mem_range.1 hi)])
/-- The chair that a session has, as the program writes it; and the session that a chair has, as the reference does. -/
def takV (o : Option Nat) : Value := .int .i64 (match o with | none => -1 | some c => (c : Int))
def ofV (o : Option Nat) : Value := .int .i64 (match o with | none => 0 | some c => (c : Int) + 1)
/-! Who can chair a session. -/
def speaksB (g : Grd) (p : List Ses) (s : Ses) (y : ByteArray) : Bool := p.any (fun o => meetsB g o s && inB (speakersOf g o) y)
def knowsB (g : Grd) (s : Ses) (ts : List ByteArray) : Bool := s.papers.any (fun x => sharesB (talkOr g x).topics ts)
def canB (g : Grd) (p : List Ses) (s : Ses) (c : Wsh) : Bool := !speaksB g p s c.person && knowsB g s c.papers
def canN (g : Grd) (p : List Ses) (l : List Wsh) (s c : Nat) : Bool :=
 match p[s]?, l[c]? with
 | some x, some y => canB g p x y
 | _, _ => false
theorem canN_at (g : Grd) {p : List Ses} {l : List Wsh} {s c : Nat} (hs : s < p.length) (hc : c < l.length) : canN g p l s c = canB g p p[s] l[c] := by
 unfold canN
 rw [List.getElem?_eq_getElem hs, List.getElem?_eq_getElem hc]
theorem meetsB_sym (g : Grd) (a b : Ses) : meetsB g a b = meetsB g b a := by
 unfold meetsB overlapsB
 generalize slotOr g a.slot = x
 generalize slotOr g b.slot = y
 cases slotOut x <;> cases slotOut y <;> simp [Bool.and_comm]
/-- The first error of chairs. -/
def chrE (l : List Wsh) (i : Nat) : Int :=
 match l[i]? with
 | none => 0
 | some c => if keyB c.person = false then 5 else if ordB (l.map (·.person)) i then 7 else if 8 < c.papers.length then 2 else riseFault c.papers
def chairsF (l : List Wsh) : Int := if 60 < l.length then 2 else firstErr (chrE l) l.length
/-- Who chairs: slot, room, person. -/
abbrev Chd := ByteArray × ByteArray × ByteArray
def chdOf (p : List Ses) (l : List Wsh) (q : Nat × Nat) : Chd := ((p[q.1]?.map (·.slot)).getD ⟨#[]⟩, (p[q.1]?.map (·.room)).getD ⟨#[]⟩, (l[q.2]?.map (·.person)).getD ⟨#[]⟩)
theorem chdOf_at {p : List Ses} {l : List Wsh} {s c : Nat} (hs : s < p.length) (hc : c < l.length) : chdOf p l (s, c) = (p[s].slot, p[s].room, l[c].person) := by
 unfold chdOf
 rw [List.getElem?_eq_getElem hs, List.getElem?_eq_getElem hc]
 rfl
instance instCelChd : Cel Chd := ⟨3, fun t => [.string t.1, .string t.2.1, .string t.2.2], fun _ => rfl, by decide, by simp [Value.oneCell']⟩
instance instCelBool : Cel Bool := ⟨1, fun b => [.bool b], fun _ => rfl, by decide, by simp [Value.oneCell']⟩
instance instCelNat : Cel Nat := ⟨1, fun n => [.int .i64 (n : Nat)], fun _ => rfl, by decide, by simp [Value.oneCell']⟩
/-- The block b holds n headers; each is of a row of the call's own, no two in one block. -/
structure Rws {α : Type} [Cel α] (base : Nat) (E T : TypeId) (b n : Nat) (hv : Nat → Value) (rows : Nat → List α) (w : World) : Prop where
 box : Box w b T (cellsF id hv n)
 own : ∀ i, i < n → Own base E w (hv i) (rows i)
 dis : ∀ i j, i < n → j < n → i ≠ j → Apt (hv i) (hv j)
 low : b < base
section
variable {α : Type} [Cel α] {base : Nat} {E T : TypeId} {b n : Nat} {hv : Nat → Value} {rows : Nat → List α} {w w' : World}
theorem Rws.kp {X : Nat → Prop} (h : Rws base E T b n hv rows w) (k : Kp X w w') (hX : ¬ X b) (hX2 : ∀ i, i < n → ∀ j, (hv i).ownBlock = some j → ¬ X j) : Rws base E T b n hv rows w' :=
 ⟨h.box.kp k hX, fun i hi => (h.own i hi).kp k (hX2 i hi), h.dis, h.low⟩
theorem Rws.below (h : Rws base E T b n hv rows w) (k : Below w.heap.size w w') : Rws base E T b n hv rows w' :=
 h.kp (X := fun _ => False) (Kp.of_below k) (fun e => e) (fun _ _ _ _ e => e)
theorem Rws.push (h : Rws base E T b n hv rows w) {i : Nat} (hi : i < n) {y : α} {v' : Value} (hown : Own base E w' v' (rows i ++ [y])) (hg : w.grownBy w' (hv i).ownBlock) (hat : ∀ j, v'.ownBlock = some j → (hv i).ownBlock = some j ∨ w.heap.size ≤ j) :
  Rws base E T b n (upd hv i v') (upd rows i (rows i ++ [y])) (w'.setCell ⟨b, i, none⟩ v') := by
 have k1 : Kp (fun j => (hv i).ownBlock = some j) w w' := (Kp.refl _ w).grown hg (fun j hj => .inl hj)
 have hlow := h.low
 have hb1 := h.box.kp k1 (fun e => by have := ((h.own i hi).lt _ e).1; omega)
 have hb2 := hb1.set i v'
 have e := cellsF_set id hv n i v'
 have e2 : (cellsF id hv n).setIfInBounds i v' = cellsF id (upd hv i v') n := e
 rw [e2] at hb2
 have far : ∀ j, j < n → j ≠ i → Own base E w' (hv j) (rows j) := fun j hj hne => (h.own j hj).kp k1 (fun x hx hx2 => h.dis j i hj hi hne x hx hx2)
 refine ⟨hb2, fun j hj => ?_, fun j k hj hk hne => ?_, hlow⟩
 ·
  by_cases e : j = i
  ·
   subst e
   rw [upd_at, upd_at]
   exact hown.setOther (p := ⟨b, j, none⟩) (fun x hx => by have := (hown.lt x hx).1; show x ≠ b; omega) _
  ·
   rw [upd_ne _ _ e, upd_ne _ _ e]
   exact (far j hj e).setOther (p := ⟨b, i, none⟩) (fun x hx => by have := ((h.own j hj).lt x hx).1; show x ≠ b; omega) _
 ·
  have new : ∀ j, j < n → j ≠ i → Apt v' (hv j) := fun j hj hne x hx hx2 => by
   rcases hat x hx with h1 | h1
   ·
    exact h.dis i j hi hj (fun e => hne e.symm) x h1 hx2
   ·
    have := ((h.own j hj).lt x hx2).2; omega
  by_cases e1 : j = i
  ·
   subst e1
   have e2 : k ≠ j := fun e => hne e.symm
   rw [upd_at, upd_ne _ _ e2]
   exact new k hk e2
  ·
   rw [upd_ne _ _ e1]
   by_cases e2 : k = i
   ·
    subst e2
    rw [upd_at]
    exact (new j hj e1).symm
   ·
    rw [upd_ne _ _ e2]
    exact h.dis j k hj hk hne
/-- What else is kept by a push. -/
theorem Rws.pushed (h : Rws base E T b n hv rows w) {i : Nat} (hi : i < n) {v' : Value} (hg : w.grownBy w' (hv i).ownBlock) : Kp (fun j => (hv i).ownBlock = some j ∨ j = b) w (w'.setCell ⟨b, i, none⟩ v') :=
 ((Kp.refl _ w).grown hg (fun j hj => .inl (.inl hj))).setCell (p := ⟨b, i, none⟩) (.inl (.inr rfl)) _
end
theorem SA.natC {w : World} {a : Option Addr} {l : List Nat} (h : SA w a l) {i : Nat} (hi : i < l.length) :
  ∃ b off, a = some ⟨b, off, none⟩ ∧ w.cell? ⟨b, off + i, none⟩ = some (.int .i64 (l[i] : Nat)) := by
 obtain ⟨b, off, ha, hc⟩ := h.at hi
 refine ⟨b, off, ha, ?_⟩
 have h0 := hc 0 (by decide)
 have e : i * Cel.k Nat + 0 = i := by show i * 1 + 0 = i; omega
 rw [e] at h0
 exact h0
theorem Box.cellF {α : Type} {enc : α → Value} {f : Nat → α} {n : Nat} {w : World} {b : Nat} {T : TypeId} (h : Box w b T (cellsF enc f n)) {i : Nat} (hi : i < n) : w.cell? ⟨b, i, none⟩ = some (enc (f i)) := by
 rw [h.cell i, cellsF_get _ _ hi]
theorem Box.setF {α : Type} {enc : α → Value} {f : Nat → α} {n : Nat} {w : World} {b : Nat} {T : TypeId} (h : Box w b T (cellsF enc f n)) (i : Nat) (v : α) : Box (w.setCell ⟨b, i, none⟩ (enc v)) b T (cellsF enc (upd f i v) n) := by
 rw [← cellsF_set]
 exact h.set i _
/-- A match at block M: the sessions of each chair, who is settled. -/
structure MatchAt (base M C T U D nc ns : Nat) (hv : Nat → Value) (rows : Nat → List Nat) (used done : Nat → Bool) (w : World) : Prop where
 box : Box w M 98 #[.slice (some ⟨C, 0, none⟩) nc nc, .slice (some ⟨T, 0, none⟩) ns ns, .slice (some ⟨U, 0, none⟩) nc nc, .slice (some ⟨D, 0, none⟩) ns ns]
 can : Rws base 3 22 C nc hv rows w
 used : Box w U 4 (cellsF Value.bool used nc)
 done : Box w D 4 (cellsF Value.bool done ns)
 rng : ∀ c, c < nc → ∀ s ∈ rows c, s < ns
 low : M < base ∧ T < base ∧ U < base ∧ D < base
 ne : T ≠ M ∧ T ≠ C ∧ T ≠ U ∧ T ≠ D
section
variable {base M C T U D nc ns : Nat} {hv : Nat → Value} {rows : Nat → List Nat} {used done : Nat → Bool} {w w' : World}
theorem MatchAt.kp {X : Nat → Prop} (h : MatchAt base M C T U D nc ns hv rows used done w) (k : Kp X w w') (hX : ¬ X M ∧ ¬ X C ∧ ¬ X U ∧ ¬ X D) (hX2 : ∀ i, i < nc → ∀ j, (hv i).ownBlock = some j → ¬ X j) : MatchAt base M C T U D nc ns hv rows used done w' :=
 ⟨h.box.kp k hX.1, h.can.kp k hX.2.1 hX2, h.used.kp k hX.2.2.1, h.done.kp k hX.2.2.2, h.rng, h.low, h.ne⟩
/-- What a search changes. -/
theorem MatchAt.srch (h : MatchAt base M C T U D nc ns hv rows used done w) {Z : Nat} (hZ : base ≤ Z) (hZ2 : ∀ i, i < nc → (hv i).ownBlock ≠ some Z) (k : Kp (fun j => j = T ∨ j = Z) w w') : MatchAt base M C T U D nc ns hv rows used done w' := by
 obtain ⟨h1, h2, h3, h4⟩ := h.low
 obtain ⟨n1, n2, n3, n4⟩ := h.ne
 have h5 := h.can.low
 refine h.kp k ⟨fun e => ?_, fun e => ?_, fun e => ?_, fun e => ?_⟩ (fun i hi j hj e => ?_)
 ·
  rcases e with e | e
  ·
   exact n1 e.symm
  ·
   omega
 ·
  rcases e with e | e
  ·
   exact n2 e.symm
  ·
   omega
 ·
  rcases e with e | e
  ·
   exact n3 e.symm
  ·
   omega
 ·
  rcases e with e | e
  ·
   exact n4 e.symm
  ·
   omega
 ·
  rcases e with e | e
  ·
   have := ((h.can.own i hi).lt j hj).1; omega
  ·
   exact hZ2 i hi (e ▸ hj)
end
/-- The sessions of a chair that are not settled. -/
def adjP (rows : Nat → List Nat) (done : Nat → Bool) (c : Nat) : List Nat := (rows c).filter (fun s => !done s)
def ReachRes (rows : Nat → List Nat) (done : Nat → Bool) (nc ns T Z c : Nat) (o : Nat → Option Nat) (s : Nat → Bool) (w : World) (e : Ending) (w' : World) : Prop :=
 ∃ b o' s', e = .returned (.bool b) ∧ Srch (adjP rows done) c (adjP rows done c) o s b o' s' ∧ Box w' T 3 (cellsF takV o' ns) ∧ Box w' Z 4 (cellsF Value.bool s' ns) ∧ Kp (fun j => j = T ∨ j = Z) w w' ∧ ∀ r t, r < ns → o' r = some t → t < nc
set_option maxRecDepth 100000 in
set_option maxHeartbeats 8000000 in
theorem reach_any {base M C T U D nc ns : Nat} {hv : Nat → Value} {rows : Nat → List Nat} {used done : Nat → Bool} (hns : ns ≤ 100000) (hnc : nc ≤ 100000) :
  ∀ (k c : Nat) (o : Nat → Option Nat) (s : Nat → Bool) (Z : Nat) (w : World), unseen ns s = k → c < nc → MatchAt base M C T U D nc ns hv rows used done w → Box w T 3 (cellsF takV o ns) → Box w Z 4 (cellsF Value.bool s ns) → base ≤ Z → (∀ i, i < nc → (hv i).ownBlock ≠ some Z) → (∀ c, c < nc → (rows c).length ≤ 100000) → (∀ r t, r < ns → o r = some t → t < nc) →
  Calls Tryz.prog 128 #[.pointer (some ⟨M, 0, none⟩), .int .i64 (c : Nat), .slice (some ⟨Z, 0, none⟩) ns ns] w (ReachRes rows done nc ns T Z c o s w) := by
 intro k
 induction k using Nat.strongRecOn with
 | _ k ih =>
 intro c o s Z w hk hc hM hT hZb hZ hZ2 hrl hot
 have HIH : Hid (∀ (W : World) (r t : Nat) (oi : Nat → Option Nat) (si : Nat → Bool), r < ns → si r = false → (∀ x, s x = true → si x = true) → t < nc → Kp (fun j => j = T ∨ j = Z) w W → Box W T 3 (cellsF takV oi ns) → Box W Z 4 (cellsF Value.bool (upd si r true) ns) → (∀ r t, r < ns → oi r = some t → t < nc) →
   Calls Tryz.prog 128 #[.pointer (some ⟨M, 0, none⟩), .int .i64 (t : Nat), .slice (some ⟨Z, 0, none⟩) ns ns] W (ReachRes rows done nc ns T Z t oi (upd si r true) W)) := fun W r t oi si hr hs hsub ht hkp hT1 hZ1 hot1 => by
  have h1 := unseen_upd hr hs
  have h2 := unseen_mono (n := ns) hsub
  exact ih _ (by omega) t oi (upd si r true) Z W rfl ht (hM.srch hZ hZ2 hkp) hT1 hZ1 hZ hZ2 hrl hot1
 have HM := Lib.hid (fun W (h : Kp (fun j => j = T ∨ j = Z) w W) => hM.srch hZ hZ2 h)
 have hTZ : T ≠ Z := by have := hM.low.2.1; omega
 obtain ⟨ra, rc, hvc, -, -, -⟩ := (hM.can.own c hc).form
 have hrlc := hrl c hc
 have Hrng := Lib.hid (hM.rng c hc)
 have hb0 := hM.box
 have hC0 := hM.can.box.cellF hc
 simp only [id] at hC0
 rw [hvc] at hC0
 have HRW : Hid (∀ W, Kp (fun j => j = T ∨ j = Z) w W → SA W ra (rows c)) := fun W h => by
  obtain ⟨a', c', he, hsa, -, -⟩ := ((HM.out W h).can.own c hc).form
  rw [hvc] at he
  simp only [Value.slice.injEq] at he
  rw [he.1]; exact hsa
 have hdr : Hid (∀ b o' s', Srch (adjP rows done) c (((rows c).drop 0).filter (fun s => !done s)) o s b o' s' → Srch (adjP rows done) c (adjP rows done c) o s b o' s') := fun b o' s' h => h
 have hc1 : (0 : Int) ≤ (c : Int) := by omega
 have hc2 : (c : Int) < (nc : Int) := by omega
 clear ih hrl hM hvc hk
 unfold ReachRes
 generalize hrw : rows c = row at *
 generalize hadj : adjP rows done = adj at *
 clear hrw
 go_enter Tryz.func128, Tryz.ntmps128
 have hb0_l := hb0.lt; have hb0_0 := hb0.cell 0; have hb0_1 := hb0.cell 1; have hb0_2 := hb0.cell 2; have hb0_3 := hb0.cell 3; simp at hb0_0 hb0_1 hb0_2 hb0_3
 go_wp2_with fail
 clear hb0_l hb0_0 hb0_1 hb0_2 hb0_3
 clear hb0 hC0
 go_loopg [17] row.length (fun gk i wr => ∃ (n : Nat) (oi : Nat → Option Nat) (si : Nat → Bool), i = .int .i64 n ∧ n ≤ row.length ∧ Hid (gk = row.length - n) ∧ Box wr T 3 (cellsF takV oi ns) ∧ Box wr Z 4 (cellsF Value.bool si ns) ∧ Kp (fun j => j = T ∨ j = Z) w wr ∧ Hid (∀ x, s x = true → si x = true) ∧ Hid (∀ r t, r < ns → oi r = some t → t < nc) ∧ Hid (∀ b o' s', Srch adj c ((row.drop n).filter (fun s => !done s)) oi si b o' s' → Srch adj c (adj c) o s b o' s'))
 case atStart => exact ⟨0, o, s, rfl, by omega, rfl, hT, hZb, Kp.refl _ _, (fun x h => h), hot, hdr.out⟩
 case round =>
  clear hT hZb hot hdr
  obtain ⟨n, oi, si, rfl, hn, hgk, hT, hZb, hkp, hsub, hot, hco⟩ := hrel
  by_cases hlt : n < row.length
  ·
   obtain ⟨b, off, ha, c0⟩ := (HRW.out _ hkp).natC hlt
   have hr := Hrng.out row[n] (List.getElem_mem hlt)
   have Hd : Hid (row.drop n = row[n] :: row.drop (n + 1)) := List.drop_eq_getElem_cons hlt
   have Ha := Lib.hid ha
   rw [ha]
   clear ha
   generalize row[n] = r at *
   have hMr := HM.out _ hkp
   have hr1 : (0 : Int) ≤ (r : Int) := by omega
   have hr2 : (r : Int) < (ns : Int) := by omega
   have hbx := hMr.box
   have cZ := hZb.cellF hr
   have cD := hMr.done.cellF hr
   have cT := hT.cellF hr
   clear hMr
   cases hsr : si r
   ·
    rw [hsr] at cZ
    cases hdn : done r
    ·
     rw [hdn] at cD
     have HF : Hid ((row.drop n).filter (fun s => !done s) = r :: (row.drop (n + 1)).filter (fun s => !done s)) := by
      show _ = _; rw [Hd.out, List.filter_cons, hdn]; rfl
     have hfZ := hZb.frozen r
     have hZ1 := hZb.setF r true
     have hk1 : Kp (fun j => j = T ∨ j = Z) w (wr.setCell ⟨Z, r, none⟩ (.bool true)) := hkp.setCell (p := ⟨Z, r, none⟩) (.inl (.inr rfl)) _
     have hT1 := hT.setOther (p := ⟨Z, r, none⟩) (fun e => hTZ e.symm) (.bool true)
     have hb1 := (HM.out _ hk1).box
     have cT1 := hT1.cellF hr
     have hfT1 := hT1.frozen r
     cases hor : oi r with
     | none =>
      rw [hor] at cT1
      have HS := Lib.hid (hco.out true _ _ (by rw [HF.out]; exact Srch.free hsr hor))
      have hT2 := hT1.setF r (some c)
      have hZ2' := hZ1.setOther (p := ⟨T, r, none⟩) hTZ (.int .i64 (c : Nat))
      have hk2 := hk1.setCell (p := ⟨T, r, none⟩) (.inl (.inl rfl)) (.int .i64 (c : Nat))
      clear hT hZb hkp hco hZ1 hk1 hT1
      have hbx_l := hbx.lt; have hbx_0 := hbx.cell 0; have hbx_1 := hbx.cell 1; have hbx_2 := hbx.cell 2; have hbx_3 := hbx.cell 3; simp at hbx_0 hbx_1 hbx_2 hbx_3
      have hb1_l := hb1.lt; have hb1_0 := hb1.cell 0; have hb1_1 := hb1.cell 1; have hb1_2 := hb1.cell 2; have hb1_3 := hb1.cell 3; simp at hb1_0 hb1_1 hb1_2 hb1_3
      simp only [takV] at cT1
      go_wp2_with fail
      go_ret
      exact ⟨true, _, _, rfl, HS.out, hT2, hZ2', hk2, fun x t hx ht => by
       by_cases e : x = r
       ·
        rw [e, upd_at] at ht; cases ht; exact hc
       ·
        rw [upd_ne _ _ e] at ht; exact hot.out x t hx ht⟩
     | some t =>
      rw [hor] at cT1
      have ht := hot.out r t hr hor
      have HC := Lib.hid (HIH.out _ r t oi si hr hsr hsub.out ht hk1 hT1 hZ1 hot.out)
      have hneg : decide ((t : Int) < 0) = false := decide_eq_false (by omega)
      clear hT hZb hkp hZ1 hT1 cT
      have hbx_l := hbx.lt; have hbx_0 := hbx.cell 0; have hbx_1 := hbx.cell 1; have hbx_2 := hbx.cell 2; have hbx_3 := hbx.cell 3; simp at hbx_0 hbx_1 hbx_2 hbx_3
      have hb1_l := hb1.lt; have hb1_0 := hb1.cell 0; have hb1_1 := hb1.cell 1; have hb1_2 := hb1.cell 2; have hb1_3 := hb1.cell 3; simp at hb1_0 hb1_1 hb1_2 hb1_3
      simp only [takV] at cT1
      go_wp2_with fail
      refine HC.out.mono ?_
      rintro e w1 ⟨b1, o1, s1, rfl, hS1, hT2, hZ2', hk2, hot2⟩
      have hk3 := hk1.trans hk2
      have hb2 := (HM.out _ hk3).box
      have hfT2 := hT2.frozen r
      have cT2 := hT2.cellF hr
      rw [hadj] at hS1
      clear hbx_l hbx_0 hbx_1 hbx_2 hbx_3
      clear hb1_l hb1_0 hb1_1 hb1_2 hb1_3
      clear hbx hb1 hk1 hk2 cZ cD cT1 hfT1 hfZ c0 HC
      cases b1
      ·
       have HS1 := Lib.hid hS1
       have hb2_l := hb2.lt; have hb2_0 := hb2.cell 0; have hb2_1 := hb2.cell 1; have hb2_2 := hb2.cell 2; have hb2_3 := hb2.cell 3; simp at hb2_0 hb2_1 hb2_2 hb2_3
       go_wp2_with fail
       rw [← Ha.out]
       go_roundg (row.length - (n + 1))
       case measure => have := hgk.out; omega
       case rel => exact ⟨n + 1, o1, s1, by go_num, by omega, rfl, hT2, hZ2', hk3, fun x hx => HS1.out.more x (by
        by_cases e : x = r
        ·
         rw [e]; exact upd_at _ _ _
        ·
         rw [upd_ne _ _ e]; exact hsub.out x hx), hot2, fun b o' s' h => hco.out b o' s' (by rw [HF.out]; exact Srch.stay hsr hor HS1.out h)⟩
      ·
       have HS := Lib.hid (hco.out true _ _ (by rw [HF.out]; exact Srch.move hsr hor hS1))
       have hT3 := hT2.setF r (some c)
       have hZ3 := hZ2'.setOther (p := ⟨T, r, none⟩) hTZ (.int .i64 (c : Nat))
       have hk4 := hk3.setCell (p := ⟨T, r, none⟩) (.inl (.inl rfl)) (.int .i64 (c : Nat))
       clear hS1 hT2 hZ2' hk3
       have hb2_l := hb2.lt; have hb2_0 := hb2.cell 0; have hb2_1 := hb2.cell 1; have hb2_2 := hb2.cell 2; have hb2_3 := hb2.cell 3; simp at hb2_0 hb2_1 hb2_2 hb2_3
       go_wp2_with fail
       go_ret
       exact ⟨true, _, _, rfl, HS.out, hT3, hZ3, hk4, fun x t hx ht => by
        by_cases e : x = r
        ·
         rw [e, upd_at] at ht; cases ht; exact hc
        ·
         rw [upd_ne _ _ e] at ht; exact hot2 x t hx ht⟩
    ·
     rw [hdn] at cD
     have HF : Hid ((row.drop n).filter (fun s => !done s) = (row.drop (n + 1)).filter (fun s => !done s)) := by
      show _ = _; rw [Hd.out, List.filter_cons, hdn]; rfl
     have hbx_l := hbx.lt; have hbx_0 := hbx.cell 0; have hbx_1 := hbx.cell 1; have hbx_2 := hbx.cell 2; have hbx_3 := hbx.cell 3; simp at hbx_0 hbx_1 hbx_2 hbx_3
     go_wp2_with fail
     rw [← Ha.out]
     go_roundg (row.length - (n + 1))
     case measure => have := hgk.out; omega
     case rel => exact ⟨n + 1, oi, si, by go_num, by omega, rfl, hT, hZb, hkp, hsub, hot, fun b o' s' h => hco.out b o' s' (by rw [HF.out]; exact h)⟩
   ·
    rw [hsr] at cZ
    have HC : Hid (∀ b o' s', Srch adj c ((row.drop (n + 1)).filter (fun s => !done s)) oi si b o' s' → Srch adj c ((row.drop n).filter (fun s => !done s)) oi si b o' s') := fun b o' s' h => by
     rw [Hd.out, List.filter_cons]
     split
     ·
      exact Srch.seen hsr h
     ·
      exact h
    have hbx_l := hbx.lt; have hbx_0 := hbx.cell 0; have hbx_1 := hbx.cell 1; have hbx_2 := hbx.cell 2; have hbx_3 := hbx.cell 3; simp at hbx_0 hbx_1 hbx_2 hbx_3
    go_wp2_with fail
    rw [← Ha.out]
    go_roundg (row.length - (n + 1))
    case measure => have := hgk.out; omega
    case rel => exact ⟨n + 1, oi, si, by go_num, by omega, rfl, hT, hZb, hkp, hsub, hot, fun b o' s' h => hco.out b o' s' (HC.out b o' s' h)⟩
  ·
   obtain rfl : n = row.length := by omega
   have HS := Lib.hid (hco.out false oi si (by rw [List.drop_length]; exact Srch.nil c oi si))
   go_wp2_with fail
   go_ret
   exact ⟨false, oi, si, rfl, HS.out, hT, hZb, hkp, hot.out⟩
theorem infoBoolR : (Tryz.prog.info? 4).map (fun i => (i.zero, i.size, i.bytes)) = some (some (.bool false), 1, 1) := by kernel_rfl
set_option maxRecDepth 100000 in
set_option maxHeartbeats 8000000 in
theorem most_any {base M C T U D nc ns : Nat} {hv : Nat → Value} {rows : Nat → List Nat} {used done : Nat → Bool} (hns : ns ≤ 100000) (hnc : nc ≤ 100000) (o0 : Nat → Option Nat) (w : World) (hM : MatchAt base M C T U D nc ns hv rows used done w) (hT : Box w T 3 (cellsF takV o0 ns)) (hbw : base ≤ w.heap.size) (hrl : ∀ c, c < nc → (rows c).length ≤ 100000) :
  Calls Tryz.prog 51 #[.pointer (some ⟨M, 0, none⟩)] w (fun e w' => ∃ n o, e = .returned (.int .i64 (n : Nat)) ∧ Runs (adjP rows done) ((List.range nc).filter (fun c => !used c)) o n ∧ n ≤ nc ∧ Box w' T 3 (cellsF takV o ns) ∧ Kp (fun j => j = T) w w') := by
 have HM : Hid (∀ W, Kp (fun j => j = T) w W → MatchAt base M C T U D nc ns hv rows used done W) := fun W h => by
  obtain ⟨n1, n2, n3, n4⟩ := hM.ne
  refine hM.kp h ⟨fun e => n1 e.symm, fun e => n2 e.symm, fun e => n3 e.symm, fun e => n4 e.symm⟩ (fun i hi j hj e => ?_)
  have h1 := ((hM.can.own i hi).lt j hj).1
  have h2 := hM.low.2.1
  omega
 have hTl := hT.lt
 have HR : Hid (∀ W c o, c < nc → Kp (fun j => j = T) w W → Box W T 3 (cellsF takV o ns) → (∀ r t, r < ns → o r = some t → t < nc) → Calls Tryz.prog 128 #[.pointer (some ⟨M, 0, none⟩), .int .i64 (c : Nat), .slice (some ⟨W.heap.size, 0, none⟩) ns ns] (W.alloc (.cells (Array.replicate ns (.bool false)) 4)) (fun e w' => ∃ b o' s', e = .returned (.bool b) ∧ Srch (adjP rows done) c (adjP rows done c) o (fun _ => false) b o' s' ∧ Box w' T 3 (cellsF takV o' ns) ∧ Kp (fun j => j = T) W w' ∧ ∀ r t, r < ns → o' r = some t → t < nc)) := fun W c o hc h hTW hot => by
  have h2 := h.alloc (.cells (Array.replicate ns (.bool false)) 4)
  have hbx := Box.new W 4 (Array.replicate ns (.bool false))
  rw [show Array.replicate ns (Value.bool false) = cellsF Value.bool (fun _ => false) ns from (cellsF_rep Value.bool false ns).symm] at hbx h2 ⊢
  have hsz := h.size
  refine (reach_any hns hnc _ c o (fun _ => false) W.heap.size _ rfl hc (HM.out _ h2) (hTW.alloc _) hbx (by omega) (fun i hi e => ?_) hrl hot).mono ?_
  ·
   have := (((HM.out _ h).can.own i hi).lt _ e).2; omega
  ·
   rintro e w' ⟨b, o', s', rfl, h5, h6, h7, h8, h9⟩
   refine ⟨b, o', s', rfl, h5, h6, ?_, h9⟩
   exact (((Kp.refl (fun j => j = T ∨ j = W.heap.size) W).alloc _).trans h8).mono (fun k hk => hk.elim .inl (fun e => .inr (by rw [e]; exact Nat.le_refl _)))
 have hb0 := hM.box
 have hmk := run_make_len (P := Tryz.prog) 96 4 (.bool false) 1 (by kernel_rfl) infoBoolR rfl ns (by omega) (by omega)
 clear hM hrl
 generalize adjP rows done = adj at *
 go_enter Tryz.func51, Tryz.ntmps51
 have hb0_l := hb0.lt; have hb0_0 := hb0.cell 0; have hb0_1 := hb0.cell 1; have hb0_2 := hb0.cell 2; have hb0_3 := hb0.cell 3; simp at hb0_0 hb0_1 hb0_2 hb0_3
 go_wp2_with fail
 clear hb0_l hb0_0 hb0_1 hb0_2 hb0_3
 clear hb0
 go_loopg [11] ns (fun gk i wr => ∃ k : Nat, i = .int .i64 k ∧ k ≤ ns ∧ Hid (gk = ns - k) ∧ Box wr T 3 (cellsF takV (fun r => if r < k then none else o0 r) ns) ∧ Kp (fun j => j = T) w wr)
 case atStart => exact ⟨0, rfl, by omega, rfl, by rw [show (fun r => if r < 0 then none else o0 r) = o0 from funext (fun r => if_neg (by omega))]; exact hT, Kp.refl _ _⟩
 case round =>
  clear hT
  obtain ⟨k, rfl, hk, hgk, hT, hkp⟩ := hrel
  by_cases hlt : k < ns
  ·
   have hb1 := (HM.out _ hkp).box
   have cT := hT.cellF hlt
   have hfT := hT.frozen k
   have hT1 := hT.setF k none
   rw [cellsF_congr (g := fun r => if r < k + 1 then none else o0 r) takV (fun i hi => by
    by_cases e : i = k
    ·
     subst e; rw [upd_at, if_pos (by omega)]
    ·
     rw [upd_ne _ _ e]
     by_cases e2 : i < k
     ·
      rw [if_pos e2, if_pos (by omega)]
     ·
      rw [if_neg e2, if_neg (by omega)])] at hT1
   have hk1 := hkp.setCell (p := ⟨T, k, none⟩) (.inl rfl) (.int .i64 (-1))
   have hk0 : (0 : Int) ≤ (k : Int) := by omega
   have hk2 : (k : Int) < (ns : Int) := by omega
   clear hT hkp
   have hb1_l := hb1.lt; have hb1_0 := hb1.cell 0; have hb1_1 := hb1.cell 1; have hb1_2 := hb1.cell 2; have hb1_3 := hb1.cell 3; simp at hb1_0 hb1_1 hb1_2 hb1_3
   go_wp2_with fail
   go_roundg (ns - (k + 1))
   case measure => have := hgk.out; omega
   case rel => exact ⟨k + 1, by go_num, by omega, rfl, hT1, hk1⟩
  ·
   obtain rfl : k = ns := by omega
   rw [cellsF_congr (g := fun _ => none) takV (fun i hi => if_pos hi)] at hT
   have hb1 := (HM.out _ hkp).box
   have hb1_l := hb1.lt; have hb1_0 := hb1.cell 0; have hb1_1 := hb1.cell 1; have hb1_2 := hb1.cell 2; have hb1_3 := hb1.cell 3; simp at hb1_0 hb1_1 hb1_2 hb1_3
   go_wp2_with fail
   clear hb1_l hb1_0 hb1_1 hb1_2 hb1_3
   clear hb1
   go_loopg [26, 4] nc (fun gk i v wr => ∃ (n m : Nat) (o : Nat → Option Nat), i = .int .i64 n ∧ v = .int .i64 m ∧ n ≤ nc ∧ m ≤ n ∧ Hid (gk = nc - n) ∧ Hid (Runs adj ((List.range n).filter (fun c => !used c)) o m) ∧ Box wr T 3 (cellsF takV o k) ∧ Kp (fun j => j = T) w wr ∧ Hid (∀ r t, r < k → o r = some t → t < nc))
   case atStart => exact ⟨0, 0, fun _ => none, rfl, rfl, by omega, by omega, rfl, Runs.nil, hT, hkp, fun r t _ h => (by cases h)⟩
   case round =>
    clear hT hkp
    obtain ⟨n, m, o, rfl, rfl, hn, hm, hgn, hru, hT, hkp, hot⟩ := hrel
    by_cases hnl : n < nc
    ·
     have hM1 := HM.out _ hkp
     have hb1 := hM1.box
     have cU := hM1.used.cellF hnl
     have hFl : Hid ((List.range (n + 1)).filter (fun c => !used c) = (List.range n).filter (fun c => !used c) ++ if used n = true then [] else [n]) := by
      show _ = _
      rw [List.range_succ, List.filter_append, List.filter_cons, List.filter_nil]
      cases used n <;> rfl
     have hn0 : (0 : Int) ≤ (n : Int) := by omega
     have hn2 : (n : Int) < (nc : Int) := by omega
     clear hM1
     cases hu : used n
     ·
      rw [hu] at cU
      have HC := Lib.hid (HR.out _ n o hnl hkp hT hot.out)
      have hw : IntKind.i64.wrap ((m : Int) + 1) = ((m + 1 : Nat) : Int) := by rw [IntWalk.i64_in _ (by omega)]; omega
      clear hT
      have hb1_l := hb1.lt; have hb1_0 := hb1.cell 0; have hb1_1 := hb1.cell 1; have hb1_2 := hb1.cell 2; have hb1_3 := hb1.cell 3; simp at hb1_0 hb1_1 hb1_2 hb1_3
      go_wp2_with fail
      refine HC.out.mono ?_
      rintro e w1 ⟨b, o', s', rfl, hS, hT1, hk1, hot1⟩
      have hk2 := hkp.trans hk1
      have HRu := hru.out.snoc hS
      rw [show (List.range n).filter (fun c => !used c) ++ [n] = (List.range (n + 1)).filter (fun c => !used c) from by rw [hFl.out, hu]; rfl] at HRu
      have HRu2 := Lib.hid HRu
      clear hb1_l hb1_0 hb1_1 hb1_2 hb1_3
      clear hb1 cU HC hS HRu hkp hk1
      cases b
      ·
       go_wp2_with fail
       go_roundg (nc - (n + 1))
       case measure => have := hgn.out; omega
       case rel => exact ⟨n + 1, m, o', by go_num, rfl, by omega, by omega, rfl, HRu2.out, hT1, hk2, hot1⟩
      ·
       go_wp2_with fail
       go_roundg (nc - (n + 1))
       case measure => have := hgn.out; omega
       case rel => exact ⟨n + 1, m + 1, o', by go_num, rfl, by omega, by omega, rfl, HRu2.out, hT1, hk2, hot1⟩
     ·
      rw [hu] at cU
      have HRu := hru.out
      rw [show (List.range n).filter (fun c => !used c) = (List.range (n + 1)).filter (fun c => !used c) from by rw [hFl.out, hu]; exact (List.append_nil _).symm] at HRu
      have HRu2 := Lib.hid HRu
      clear HRu
      have hb1_l := hb1.lt; have hb1_0 := hb1.cell 0; have hb1_1 := hb1.cell 1; have hb1_2 := hb1.cell 2; have hb1_3 := hb1.cell 3; simp at hb1_0 hb1_1 hb1_2 hb1_3
      go_wp2_with fail
      go_roundg (nc - (n + 1))
      case measure => have := hgn.out; omega
      case rel => exact ⟨n + 1, m, o, by go_num, rfl, by omega, by omega, rfl, HRu2.out, hT, hkp, hot.out⟩
    ·
     obtain rfl : n = nc := by omega
     go_wp2_with fail
     go_ret
     exact ⟨m, o, rfl, hru.out, hm, hT, hkp⟩
/-- What is found is what can be found at most. -/
theorem runs_most {can : Nat → Nat → Bool} {nc ns : Nat} {mst : (Nat → Bool) → Nat → Nat} (hm : IsMost can nc ns mst) {rows : Nat → List Nat} {used done : Nat → Bool} {k : Nat} (hrows : ∀ c, c < nc → rows c = (List.range ns).filter (fun s => can s c)) (hdone : ∀ s, s < ns → done s = decide (s < k)) {o : Nat → Option Nat} {n : Nat}
  (h : Runs (fun c => (rows c).filter (fun s => !done s)) ((List.range nc).filter (fun c => !used c)) o n) : n = mst used k := by
 refine MaxM.one ((h.max (List.nodup_range.filter _)).same (fun a b => ?_)) (hm used k)
 unfold Edg
 rw [List.mem_filter, List.mem_filter, List.mem_range]
 constructor
 ·
  rintro ⟨⟨ha, hu⟩, hb, hd⟩
  rw [hrows a ha, List.mem_filter, List.mem_range] at hb
  rw [hdone b hb.1] at hd
  refine ⟨ha, hb.1, ?_, by simpa using hu, hb.2⟩
  have := of_decide_eq_false (by simpa using hd : decide (b < k) = false)
  omega
 ·
  rintro ⟨ha, hb, hk, hu, hc⟩
  refine ⟨⟨ha, by rw [hu]; rfl⟩, ?_, ?_⟩
  ·
   rw [hrows a ha, List.mem_filter, List.mem_range]; exact ⟨hb, hc⟩
  ·
   rw [hdone b hb, decide_eq_false (by omega)]; rfl
theorem SA.boolC {w : World} {a : Option Addr} {l : List Bool} (h : SA w a l) {i : Nat} (hi : i < l.length) :
  ∃ b off, a = some ⟨b, off, none⟩ ∧ w.cell? ⟨b, off + i, none⟩ = some (.bool l[i]) := by
 obtain ⟨b, off, ha, hc⟩ := h.at hi
 refine ⟨b, off, ha, ?_⟩
 have h0 := hc 0 (by decide)
 have e : i * Cel.k Bool + 0 = i := by show i * 1 + 0 = i; omega
 rw [e] at h0
 exact h0
/-- Who can chair each session, and is free. -/
def adjR (can : Nat → Nat → Bool) (free : Nat → Bool) (nc i : Nat) : List Nat := (List.range nc).filter (fun k => can i k && free k)
def rowR (can : Nat → Nat → Bool) (nc i : Nat) : List Bool := (List.range nc).map (can i)
theorem range_drop {n m : Nat} (h : n < m) : (List.range m).drop n = n :: (List.range m).drop (n + 1) := by
 rw [List.drop_eq_getElem_cons (by rw [List.length_range]; exact h), List.getElem_range]
def seekV (F K O Q : Nat) : Value := .func (.func 137) #[] #[.pointer (some ⟨F, 0, none⟩), .pointer (some ⟨K, 0, none⟩), .pointer (some ⟨O, 0, none⟩), .pointer (some ⟨Q, 0, none⟩)]
/-- What a search reads and does not change. -/
structure SeekAt (base N0 N1 F FB K C O OB Q nc ns : Nat) (hv : Nat → Value) (can : Nat → Nat → Bool) (free : Nat → Bool) (w : World) : Prop where
 fbox : Box w F 96 #[.slice (some ⟨FB, 0, none⟩) nc nc]
 free : Box w FB 4 (cellsF Value.bool free nc)
 kbox : Box w K 106 #[.slice (some ⟨C, 0, none⟩) ns ns]
 can : Rws base 4 96 C ns hv (rowR can nc) w
 obox : Box w O 22 #[.slice (some ⟨OB, 0, none⟩) nc nc]
 qbox : Box w Q 184 #[seekV F K O Q]
 low : FB < N0 ∧ C < N0 ∧ N0 ≤ OB ∧ N0 ≤ N1
 own : ∀ i, i < ns → ∀ j, (hv i).ownBlock = some j → j < N0
 lt : F < N1 ∧ K < N1 ∧ O < N1 ∧ Q < N1
 ne : OB ≠ F ∧ OB ≠ K ∧ OB ≠ O ∧ OB ≠ Q
theorem SeekAt.srch {base N0 N1 F FB K C O OB Q nc ns : Nat} {hv : Nat → Value} {can : Nat → Nat → Bool} {free : Nat → Bool} {w w' : World} (h : SeekAt base N0 N1 F FB K C O OB Q nc ns hv can free w) {Z : Nat} (hZ : N1 ≤ Z) (k : Kp (fun j => j = OB ∨ j = Z) w w') : SeekAt base N0 N1 F FB K C O OB Q nc ns hv can free w' := by
 obtain ⟨l1, l2, l3, l4⟩ := h.low
 obtain ⟨m1, m2, m3, m4⟩ := h.lt
 obtain ⟨n1, n2, n3, n4⟩ := h.ne
 have hX : ∀ j, j < N1 → j ≠ OB → ¬ (j = OB ∨ j = Z) := fun j h1 h2 e => by
  rcases e with e | e
  ·
   exact h2 e
  ·
   omega
 exact ⟨h.fbox.kp k (hX _ m1 (fun e => n1 e.symm)), h.free.kp k (hX _ (by omega) (by omega)), h.kbox.kp k (hX _ m2 (fun e => n2 e.symm)), h.can.kp k (hX _ (by omega) (by omega)) (fun i hi j hj => hX _ (by have := h.own i hi j hj; omega) (by have := h.own i hi j hj; omega)), h.obox.kp k (hX _ m3 (fun e => n3 e.symm)), h.qbox.kp k (hX _ m4 (fun e => n4 e.symm)), h.low, h.own, h.lt, h.ne⟩
def SeekRes (adj : Nat → List Nat) (nc ns OB Z i : Nat) (o : Nat → Option Nat) (s : Nat → Bool) (w : World) (e : Ending) (w' : World) : Prop :=
 ∃ b o' s', e = .returned (.bool b) ∧ Srch adj i (adj i) o s b o' s' ∧ Box w' OB 3 (cellsF ofV o' nc) ∧ Box w' Z 4 (cellsF Value.bool s' nc) ∧ Kp (fun j => j = OB ∨ j = Z) w w' ∧ ∀ r t, r < nc → o' r = some t → t < ns
set_option maxRecDepth 100000 in
set_option maxHeartbeats 4000000 in
theorem seek_any {base N0 N1 F FB K C O OB Q nc ns : Nat} {hv : Nat → Value} {can : Nat → Nat → Bool} {free : Nat → Bool} (hns : ns ≤ 100000) (hnc : nc ≤ 100000) :
  ∀ (m i : Nat) (o : Nat → Option Nat) (s : Nat → Bool) (Z : Nat) (w : World), unseen nc s = m → i < ns → SeekAt base N0 N1 F FB K C O OB Q nc ns hv can free w → Box w OB 3 (cellsF ofV o nc) → Box w Z 4 (cellsF Value.bool s nc) → N1 ≤ Z → OB ≠ Z → (∀ r t, r < nc → o r = some t → t < ns) →
  Calls Tryz.prog 137 #[.int .i64 (i : Nat), .slice (some ⟨Z, 0, none⟩) nc nc, .pointer (some ⟨F, 0, none⟩), .pointer (some ⟨K, 0, none⟩), .pointer (some ⟨O, 0, none⟩), .pointer (some ⟨Q, 0, none⟩)] w (SeekRes (adjR can free nc) nc ns OB Z i o s w) := by
 intro m
 induction m using Nat.strongRecOn with
 | _ m ih =>
 intro c o s Z w hk hc hM hT hZb hZ hTZ hot
 have HIH : Hid (∀ (W : World) (r t : Nat) (oi : Nat → Option Nat) (si : Nat → Bool), r < nc → si r = false → (∀ x, s x = true → si x = true) → t < ns → Kp (fun j => j = OB ∨ j = Z) w W → Box W OB 3 (cellsF ofV oi nc) → Box W Z 4 (cellsF Value.bool (upd si r true) nc) → (∀ r t, r < nc → oi r = some t → t < ns) →
   Calls Tryz.prog 137 #[.int .i64 (t : Nat), .slice (some ⟨Z, 0, none⟩) nc nc, .pointer (some ⟨F, 0, none⟩), .pointer (some ⟨K, 0, none⟩), .pointer (some ⟨O, 0, none⟩), .pointer (some ⟨Q, 0, none⟩)] W (SeekRes (adjR can free nc) nc ns OB Z t oi (upd si r true) W)) := fun W r t oi si hr hs hsub ht hkp hT1 hZ1 hot1 => by
  have h1 := unseen_upd hr hs
  have h2 := unseen_mono (n := nc) hsub
  exact ih _ (by omega) t oi (upd si r true) Z W rfl ht (hM.srch hZ hkp) hT1 hZ1 hZ hTZ hot1
 have HM := Lib.hid (fun W (h : Kp (fun j => j = OB ∨ j = Z) w W) => hM.srch hZ h)
 obtain ⟨ra, rc, hvc, -, -, -⟩ := (hM.can.own c hc).form
 have hrl : (rowR can nc c).length = nc := by unfold rowR; rw [List.length_map, List.length_range]
 rw [hrl] at hvc
 have HRW : Hid (∀ W, Kp (fun j => j = OB ∨ j = Z) w W → SA W ra (rowR can nc c) ∧ W.cell? ⟨C, c, none⟩ = some (.slice ra nc rc)) := fun W h => by
  obtain ⟨a', c', he, hsa, -, -⟩ := ((HM.out W h).can.own c hc).form
  have h2 := (HM.out W h).can.box.cellF hc
  simp only [id] at h2
  rw [hvc] at he h2
  simp only [Value.slice.injEq] at he
  rw [he.1]
  rw [he.1] at h2
  exact ⟨hsa, h2⟩
 have hfb := hM.fbox.cell 0
 have hdr : Hid (∀ b o' s', Srch (adjR can free nc) c (((List.range nc).drop 0).filter (fun k => can c k && free k)) o s b o' s' → Srch (adjR can free nc) c (adjR can free nc c) o s b o' s') := fun b o' s' h => h
 have hc1 : (0 : Int) ≤ (c : Int) := by omega
 have hc2 : (c : Int) < (ns : Int) := by omega
 have hwc : IntKind.i64.wrap ((c : Int) + 1) = (c : Int) + 1 := IntWalk.i64_in _ (by omega)
 clear ih hM hvc hk
 unfold SeekRes
 generalize hadj : adjR can free nc = adj at *
 simp at hfb
 go_enter Tryz.func137, Tryz.ntmps137
 go_wp2_with fail
 clear hfb
 go_loopg [12] nc (fun gk iv wr => ∃ (n : Nat) (oi : Nat → Option Nat) (si : Nat → Bool), iv = .int .i64 n ∧ n ≤ nc ∧ Hid (gk = nc - n) ∧ Box wr OB 3 (cellsF ofV oi nc) ∧ Box wr Z 4 (cellsF Value.bool si nc) ∧ Kp (fun j => j = OB ∨ j = Z) w wr ∧ Hid (∀ x, s x = true → si x = true) ∧ Hid (∀ r t, r < nc → oi r = some t → t < ns) ∧ Hid (∀ b o' s', Srch adj c (((List.range nc).drop n).filter (fun k => can c k && free k)) oi si b o' s' → Srch adj c (adj c) o s b o' s'))
 case atStart => exact ⟨0, o, s, rfl, by omega, rfl, hT, hZb, Kp.refl _ _, (fun x h => h), hot, hdr.out⟩
 case round =>
  clear hT hZb hot hdr
  obtain ⟨n, oi, si, rfl, hn, hgk, hT, hZb, hkp, hsub, hot, hco⟩ := hrel
  by_cases hlt : n < nc
  ·
   obtain ⟨hsa, cC⟩ := HRW.out _ hkp
   obtain ⟨b, off, ha, c0⟩ := hsa.boolC (i := n) (by rw [hrl]; exact hlt)
   have e0 : (rowR can nc c)[n]'(by rw [hrl]; exact hlt) = can c n := by unfold rowR; rw [List.getElem_map, List.getElem_range]
   rw [e0] at c0
   rw [ha] at cC
   have Hd : Hid (((List.range nc).drop n).filter (fun k => can c k && free k) = if (can c n && free n) = true then n :: ((List.range nc).drop (n + 1)).filter (fun k => can c k && free k) else ((List.range nc).drop (n + 1)).filter (fun k => can c k && free k)) := by
    show _ = _
    rw [range_drop hlt, List.filter_cons]
   have hMr := HM.out _ hkp
   have hr1 : (0 : Int) ≤ (n : Int) := by omega
   have hr2 : (n : Int) < (nc : Int) := by omega
   have cF := hMr.fbox.cell 0
   have cK := hMr.kbox.cell 0
   have cO := hMr.obox.cell 0
   have cQ := hMr.qbox.cell 0
   simp at cF cK cO cQ
   have cB := hMr.free.cellF hlt
   have cZ := hZb.cellF hlt
   have cT := hT.cellF hlt
   clear hMr e0 hsa ha
   have skip : Hid ((can c n && free n) = false → ∀ b o' s', Srch adj c (((List.range nc).drop (n + 1)).filter (fun k => can c k && free k)) oi si b o' s' → Srch adj c (adj c) o s b o' s') := fun h b o' s' hs => hco.out b o' s' (by rw [Hd.out, if_neg (by rw [h]; decide)]; exact hs)
   have pass : Hid ((can c n && free n) = true → ((List.range nc).drop n).filter (fun k => can c k && free k) = n :: ((List.range nc).drop (n + 1)).filter (fun k => can c k && free k)) := fun h => by rw [Hd.out, if_pos h]
   have seen : Hid (si n = true → ∀ b o' s', Srch adj c (((List.range nc).drop (n + 1)).filter (fun k => can c k && free k)) oi si b o' s' → Srch adj c (adj c) o s b o' s') := fun h b o' s' hs => hco.out b o' s' (by
    rw [Hd.out]
    split
    ·
     exact Srch.seen h hs
    ·
     exact hs)
   clear Hd
   generalize hcn : can c n = cn at *
   generalize hfn : free n = fn at *
   cases cn
   ·
    have HS := Lib.hid (skip.out rfl)
    clear skip pass seen
    go_wp2_with fail
    go_roundg (nc - (n + 1))
    case measure => have := hgk.out; omega
    case rel => exact ⟨n + 1, oi, si, by go_num, by omega, rfl, hT, hZb, hkp, hsub, hot, HS.out⟩
   ·
    cases fn
    ·
     have HS := Lib.hid (skip.out rfl)
     clear skip pass seen
     go_wp2_with fail
     go_roundg (nc - (n + 1))
     case measure => have := hgk.out; omega
     case rel => exact ⟨n + 1, oi, si, by go_num, by omega, rfl, hT, hZb, hkp, hsub, hot, HS.out⟩
    ·
     have HF := Lib.hid (pass.out rfl)
     clear skip pass
     cases hsr : si n
     ·
      clear seen
      rw [hsr] at cZ
      have hfZ := hZb.frozen n
      have hZ1 := hZb.setF n true
      have hk1 : Kp (fun j => j = OB ∨ j = Z) w (wr.setCell ⟨Z, n, none⟩ (.bool true)) := hkp.setCell (p := ⟨Z, n, none⟩) (.inl (.inr rfl)) _
      have hT1 := hT.setOther (p := ⟨Z, n, none⟩) (fun e => hTZ e.symm) (.bool true)
      have hM1 := HM.out _ hk1
      have cF1 := hM1.fbox.cell 0
      have cO1 := hM1.obox.cell 0
      have cQ1 := hM1.qbox.cell 0
      simp at cF1 cO1 cQ1
      have cT1 := hT1.cellF hlt
      have hfT1 := hT1.frozen n
      clear hM1
      cases hor : oi n with
      | none =>
       rw [hor] at cT1
       have HS := Lib.hid (hco.out true _ _ (by rw [HF.out]; exact Srch.free hsr hor))
       have hT2 := hT1.setF n (some c)
       have hZ2' := hZ1.setOther (p := ⟨OB, n, none⟩) hTZ (.int .i64 ((c : Int) + 1))
       have hk2 := hk1.setCell (p := ⟨OB, n, none⟩) (.inl (.inl rfl)) (.int .i64 ((c : Int) + 1))
       clear hT hZb hkp hco hZ1 hk1 hT1
       simp only [ofV] at cT1
       go_upto_region 6 with (fail)
       refine wp_region_held_drew (S := (fun wx => wx.cell? ⟨O, 0, none⟩ = some (.slice (some ⟨OB, 0, none⟩) nc nc) ∧ wx.cell? ⟨OB, n, none⟩ = some (.int .i64 0))) (by kernel_rfl) ?hS (fun hHeld => ?_)
       case hS => exact ⟨cO1, cT1⟩
       refine rt 0 (some 39) ?_
       refine rt 1 (some 40) ?_
       refine rt 2 (some 41) ?_
       refine rt 3 (some 42) ?_
       refine rt 4 (some 43) ?_
       refine rt 5 (some 44) ?_
       refine rs 6 (some 45) ?_
       refine rs 7 (some 46) ?_
       refine rs 8 (some 47) ?_
       refine rs 9 (some 48) ?_
       refine rs 10 (some 49) ?_
       refine rs 11 (some 50) ?_
       refine rs 12 (some 51) ?_
       refine rs 13 (some 52) ?_
       refine rt 14 (some 53) ?_
       refine wpAnyH_done (by kernel_rfl) ?_ _
       go_wp2_with fail
       go_ret
       exact ⟨true, _, _, rfl, HS.out, hT2.drew, hZ2'.drew, hk2.drew, fun x t hx ht => by
        by_cases e : x = n
        ·
         rw [e, upd_at] at ht; cases ht; exact hc
        ·
         rw [upd_ne _ _ e] at ht; exact hot.out x t hx ht⟩
      | some t =>
       rw [hor] at cT1
       have ht := hot.out n t hlt hor
       have HC := Lib.hid (HIH.out _ n t oi si hlt hsr hsub.out ht hk1.drew hT1.drew hZ1.drew hot.out)
       have hne : ((t : Int) + 1 == 0) = false := by simp; omega
       have hwt : IntKind.i64.wrap ((t : Int) + 1 - 1) = (t : Int) := by rw [IntWalk.i64_in _ (by omega)]; omega
       have hwt2 : IntKind.i64.wrap (t : Int) = (t : Int) := IntWalk.i64_in _ (by omega)
       clear hT hZb hkp hZ1 hT1 cT
       simp only [ofV] at cT1
       simp only [seekV] at cQ1
       go_upto_region 6 with (fail)
       refine wp_region_held_drew (S := (fun wx => wx.cell? ⟨O, 0, none⟩ = some (.slice (some ⟨OB, 0, none⟩) nc nc) ∧ wx.cell? ⟨OB, n, none⟩ = some (.int .i64 ((t : Int) + 1)) ∧ wx.cell? ⟨Q, 0, none⟩ = some (.func (.func 137) #[] #[.pointer (some ⟨F, 0, none⟩), .pointer (some ⟨K, 0, none⟩), .pointer (some ⟨O, 0, none⟩), .pointer (some ⟨Q, 0, none⟩)]))) (by kernel_rfl) ?hS (fun hHeld => ?_)
       case hS => exact ⟨cO1, cT1, cQ1⟩
       refine rt 0 (some 39) ?_
       refine rt 1 (some 40) ?_
       refine rt 2 (some 41) ?_
       refine rt 3 (some 42) ?_
       refine rt 4 (some 43) ?_
       refine rt 5 (some 44) ?_
       refine rt 6 (some 45) ?_
       refine rt 7 (some 46) ?_
       refine rt 8 (some 47) ?_
       refine rt 9 (some 48) ?_
       refine rt 10 (some 49) ?_
       refine rt 11 (some 50) ?_
       refine rt 12 (some 51) ?_
       refine rcall (i := 13) (d := (some 52)) (by kernel_rfl) rfl (by kernel_rfl) (fun K hK => ?_)
       go_simp
       refine HC.out.mono ?_; rintro e w1 ⟨b1, o1, s1, rfl, hS1, hT2, hZ2', hk2, hot2⟩; have hk3 := hk1.drew.trans hk2; have hM2 := HM.out _ hk3; have cO2 := hM2.obox.cell 0; have cQ2 := hM2.qbox.cell 0; simp at cO2 cQ2; have hfT2 := hT2.frozen n; have cT2 := hT2.cellF hlt; rw [hS1.kept n (upd_at _ _ _), hor] at cT2; simp only [ofV] at cT2
       refine hK.out _ _ ?hS (fun hHeld => ?_)
       case hS => exact ⟨cO2, cT2, cQ2⟩
       clear hK K
       simp only [Act.put, lsetA, lsetZ, lsetS]
       refine rt 14 (some 53) ?_
       refine wpAnyH_done (by kernel_rfl) ?_ _
       clear hHeld HC hk1 hk2 hM2 cT1 hfT1 cF1 cO1 cQ1 cZ cB cF cK cO cQ cC c0 hfZ
       cases b1
       ·
        have HS1 := Lib.hid hS1
        clear hS1
        go_wp2_with fail
        go_roundg (nc - (n + 1))
        case measure => have := hgk.out; omega
        case rel => exact ⟨n + 1, o1, s1, by go_num, by omega, rfl, hT2, hZ2', hk3, fun x hx => HS1.out.more x (by
         by_cases e : x = n
         ·
          rw [e]; exact upd_at _ _ _
         ·
          rw [upd_ne _ _ e]; exact hsub.out x hx), hot2, fun b o' s' h => hco.out b o' s' (by rw [HF.out]; exact Srch.stay hsr hor HS1.out h)⟩
       ·
        have HS := Lib.hid (hco.out true _ _ (by rw [HF.out]; exact Srch.move hsr hor hS1))
        have hT3 := hT2.setF n (some c)
        have hZ3 := hZ2'.setOther (p := ⟨OB, n, none⟩) hTZ (.int .i64 ((c : Int) + 1))
        have hk4 := hk3.setCell (p := ⟨OB, n, none⟩) (.inl (.inl rfl)) (.int .i64 ((c : Int) + 1))
        clear hS1 hT2 hZ2' hk3
        go_wp2_with fail
        go_ret
        exact ⟨true, _, _, rfl, HS.out, hT3, hZ3, hk4, fun x t hx ht => by
         by_cases e : x = n
         ·
          rw [e, upd_at] at ht; cases ht; exact hc
         ·
          rw [upd_ne _ _ e] at ht; exact hot2 x t hx ht⟩
     ·
      have HS := Lib.hid (seen.out hsr)
      rw [hsr] at cZ
      clear HF seen
      go_wp2_with fail
      go_roundg (nc - (n + 1))
      case measure => have := hgk.out; omega
      case rel => exact ⟨n + 1, oi, si, by go_num, by omega, rfl, hT, hZb, hkp, hsub, hot, HS.out⟩
  ·
   obtain rfl : n = nc := by omega
   have HS := Lib.hid (hco.out false oi si (by rw [List.drop_eq_nil_of_le (by rw [List.length_range]; exact Nat.le_refl _)]; exact Srch.nil c oi si))
   go_wp2_with fail
   go_ret
   exact ⟨false, oi, si, rfl, HS.out, hT, hZb, hkp, hot.out⟩
theorem infoIntM : (Tryz.prog.info? 3).map (fun i => (i.zero, i.size, i.bytes)) = some (some (.int .i64 0), 1, 8) := by kernel_rfl
set_option maxRecDepth 100000 in
set_option maxHeartbeats 4000000 in
theorem matched_any {base C FB nc ns fr : Nat} {hv : Nat → Value} {can : Nat → Nat → Bool} {free : Nat → Bool} (hns : ns ≤ 100000) (hnc : nc ≤ 100000) (hfr : fr ≤ ns) (w : World) (hF : Box w FB 4 (cellsF Value.bool free nc)) (hR : Rws base 4 96 C ns hv (rowR can nc) w) :
  Calls Tryz.prog 65 #[.slice (some ⟨C, 0, none⟩) ns ns, .int .i64 (fr : Nat), .slice (some ⟨FB, 0, none⟩) nc nc] w (fun e w' => ∃ n o, e = .returned (.int .i64 (n : Nat)) ∧ Runs (adjR can free nc) ((List.range ns).drop fr) o n ∧ n ≤ ns ∧ Below w.heap.size w w') := by
 have hmk := run_make_len (P := Tryz.prog) 22 3 (.int .i64 0) 8 (by kernel_rfl) infoIntM rfl nc (by omega) (by omega)
 have hmb := run_make_len (P := Tryz.prog) 96 4 (.bool false) 1 (by kernel_rfl) infoBoolR rfl nc (by omega) (by omega)
 have hFl := hF.lt
 have hCl := hR.box.lt
 have hOl := Lib.hid (fun i hi j hj => ((hR.own i hi).lt j hj).2)
 have hS0 : SeekAt base w.heap.size (w.heap.size + 5) (w.heap.size + 1) FB w.heap.size C (w.heap.size + 1 + 1 + 1) (w.heap.size + 1 + 1) (w.heap.size + 1 + 1 + 1 + 1) nc ns hv can free
   (((((w.alloc (.cells #[.slice (some ⟨C, 0, none⟩) ns ns] 106)).alloc (.cells #[.slice (some ⟨FB, 0, none⟩) nc nc] 96)).alloc (.cells (Array.replicate nc (.int .i64 0)) 3)).alloc (.cells #[.slice (some ⟨w.heap.size + 1 + 1, 0, none⟩) nc nc] 22)).alloc (.cells #[.func (.func 137) #[] #[.pointer (some ⟨w.heap.size + 1, 0, none⟩), .pointer (some ⟨w.heap.size, 0, none⟩), .pointer (some ⟨w.heap.size + 1 + 1 + 1, 0, none⟩), .pointer (some ⟨w.heap.size + 1 + 1 + 1 + 1, 0, none⟩)]] 184)) := by
  have hbl := (((((Below.refl w.heap.size w).alloc (Nat.le_refl _) (.cells #[.slice (some ⟨C, 0, none⟩) ns ns] 106)).alloc (by simp) (.cells #[.slice (some ⟨FB, 0, none⟩) nc nc] 96)).alloc (by simp; omega) (.cells (Array.replicate nc (.int .i64 0)) 3)).alloc (by simp; omega) (.cells #[.slice (some ⟨w.heap.size + 1 + 1, 0, none⟩) nc nc] 22)).alloc (by simp; omega) (.cells #[.func (.func 137) #[] #[.pointer (some ⟨w.heap.size + 1, 0, none⟩), .pointer (some ⟨w.heap.size, 0, none⟩), .pointer (some ⟨w.heap.size + 1 + 1 + 1, 0, none⟩), .pointer (some ⟨w.heap.size + 1 + 1 + 1 + 1, 0, none⟩)]] 184)
  exact ⟨((((Box.newAt _ _ _ _ (by simp)).alloc _).alloc _).alloc _), hF.below hbl, ((((Box.newAt _ _ _ _ rfl).alloc _).alloc _).alloc _).alloc _, hR.below hbl, (Box.newAt _ _ _ _ (by simp)).alloc _, Box.newAt _ _ _ _ (by simp), ⟨hFl, hCl, by omega, by omega⟩, hOl.out, ⟨by omega, by omega, by omega, by omega⟩, ⟨by omega, by omega, by omega, by omega⟩⟩
 have hT0 : Box (((((w.alloc (.cells #[.slice (some ⟨C, 0, none⟩) ns ns] 106)).alloc (.cells #[.slice (some ⟨FB, 0, none⟩) nc nc] 96)).alloc (.cells (Array.replicate nc (.int .i64 0)) 3)).alloc (.cells #[.slice (some ⟨w.heap.size + 1 + 1, 0, none⟩) nc nc] 22)).alloc (.cells #[.func (.func 137) #[] #[.pointer (some ⟨w.heap.size + 1, 0, none⟩), .pointer (some ⟨w.heap.size, 0, none⟩), .pointer (some ⟨w.heap.size + 1 + 1 + 1, 0, none⟩), .pointer (some ⟨w.heap.size + 1 + 1 + 1 + 1, 0, none⟩)]] 184)) (w.heap.size + 1 + 1) 3 (cellsF ofV (fun _ => none) nc) := by
  rw [cellsF_rep ofV none nc]
  exact ((Box.newAt _ _ _ _ (by simp)).alloc _).alloc _
 have hb0 : Below w.heap.size w (((((w.alloc (.cells #[.slice (some ⟨C, 0, none⟩) ns ns] 106)).alloc (.cells #[.slice (some ⟨FB, 0, none⟩) nc nc] 96)).alloc (.cells (Array.replicate nc (.int .i64 0)) 3)).alloc (.cells #[.slice (some ⟨w.heap.size + 1 + 1, 0, none⟩) nc nc] 22)).alloc (.cells #[.func (.func 137) #[] #[.pointer (some ⟨w.heap.size + 1, 0, none⟩), .pointer (some ⟨w.heap.size, 0, none⟩), .pointer (some ⟨w.heap.size + 1 + 1 + 1, 0, none⟩), .pointer (some ⟨w.heap.size + 1 + 1 + 1 + 1, 0, none⟩)]] 184)) := by (repeat' (first | exact Below.refl _ _ | assumption | refine Below.setCell ?_ ?_ _ | refine below_drewN ?_ _ | refine Below.drew ?_ | refine Below.alloc ?_ ?_ _ | (with_reducible refine Below.trans ?_ (Below.mono hb ?_)) | (with_reducible refine Below.trans ?_ (Below.mono hb0 ?_)) | (with_reducible refine Below.trans ?_ (Below.mono hb1 ?_)) | (with_reducible refine Below.trans ?_ (Below.mono hb2 ?_)) | (with_reducible refine Below.trans ?_ (Below.mono hb3 ?_)) | (with_reducible refine Below.trans ?_ (Below.mono hb4 ?_)) | (with_reducible refine Below.trans ?_ (Below.mono hb5 ?_)) | (with_reducible refine Below.trans ?_ (Below.mono hb6 ?_)) | (with_reducible refine Below.trans ?_ (Below.mono hb7 ?_)) | (with_reducible refine Below.trans ?_ (Below.mono hb8 ?_)) | (with_reducible refine Below.trans ?_ (Below.mono hb9 ?_)) | (with_reducible refine Below.trans ?_ (Below.mono hb10 ?_)) | (with_reducible refine Below.trans ?_ (Below.mono hb11 ?_)) | (with_reducible refine Below.trans ?_ (Below.mono hb12 ?_)) | (with_reducible refine Below.trans ?_ (Below.mono hb13 ?_)) | (with_reducible refine Below.trans ?_ (Below.mono hb14 ?_)) | (with_reducible refine Below.trans ?_ (Below.mono hb15 ?_)) | omega | (simp; done) | (simp; omega)))
 have hz0 : (((((w.alloc (.cells #[.slice (some ⟨C, 0, none⟩) ns ns] 106)).alloc (.cells #[.slice (some ⟨FB, 0, none⟩) nc nc] 96)).alloc (.cells (Array.replicate nc (.int .i64 0)) 3)).alloc (.cells #[.slice (some ⟨w.heap.size + 1 + 1, 0, none⟩) nc nc] 22)).alloc (.cells #[.func (.func 137) #[] #[.pointer (some ⟨w.heap.size + 1, 0, none⟩), .pointer (some ⟨w.heap.size, 0, none⟩), .pointer (some ⟨w.heap.size + 1 + 1 + 1, 0, none⟩), .pointer (some ⟨w.heap.size + 1 + 1 + 1 + 1, 0, none⟩)]] 184)).heap.size = w.heap.size + 5 := by simp
 clear hF hR hOl
 go_enter Tryz.func65, Tryz.ntmps65
 go_wp2_with fail
 clear hmk
 generalize (((((w.alloc (.cells #[.slice (some ⟨C, 0, none⟩) ns ns] 106)).alloc (.cells #[.slice (some ⟨FB, 0, none⟩) nc nc] 96)).alloc (.cells (Array.replicate nc (.int .i64 0)) 3)).alloc (.cells #[.slice (some ⟨w.heap.size + 1 + 1, 0, none⟩) nc nc] 22)).alloc (.cells #[.func (.func 137) #[] #[.pointer (some ⟨w.heap.size + 1, 0, none⟩), .pointer (some ⟨w.heap.size, 0, none⟩), .pointer (some ⟨w.heap.size + 1 + 1 + 1, 0, none⟩), .pointer (some ⟨w.heap.size + 1 + 1 + 1 + 1, 0, none⟩)]] 184)) = W5 at *
 obtain ⟨K, hK⟩ : ∃ K, K = w.heap.size := ⟨_, rfl⟩
 obtain ⟨F, hF⟩ : ∃ F, F = w.heap.size + 1 := ⟨_, rfl⟩
 obtain ⟨OB, hOB⟩ : ∃ OB, OB = w.heap.size + 1 + 1 := ⟨_, rfl⟩
 obtain ⟨O, hO⟩ : ∃ O, O = w.heap.size + 1 + 1 + 1 := ⟨_, rfl⟩
 obtain ⟨Q, hQ⟩ : ∃ Q, Q = w.heap.size + 1 + 1 + 1 + 1 := ⟨_, rfl⟩
 rw [← hQ, ← hO, ← hOB, ← hF, ← hK]
 rw [← hQ, ← hO, ← hOB, ← hF] at hS0
 rw [← hOB] at hT0
 have hS0' : SeekAt base w.heap.size (w.heap.size + 5) F FB K C O OB Q nc ns hv can free W5 := by rw [hK]; exact hS0
 clear hS0
 have hOB5 : OB < w.heap.size + 5 := by omega
 have HSK := Lib.hid (fun (i : Nat) (o : Nat → Option Nat) (W : World) (hi : i < ns) (h : SeekAt base w.heap.size (w.heap.size + 5) F FB K C O OB Q nc ns hv can free W) (hT : Box W OB 3 (cellsF ofV o nc)) (hsz : w.heap.size + 5 ≤ W.heap.size) (hot : ∀ r t, r < nc → o r = some t → t < ns) =>
  have hbx := Box.new W 4 (Array.replicate nc (.bool false))
  seek_any hns hnc _ i o (fun _ => false) W.heap.size _ rfl hi (h.srch hsz ((Kp.refl (fun j => j = OB ∨ j = W.heap.size) W).alloc (.cells (Array.replicate nc (.bool false)) 4))) (hT.alloc _) (by rw [cellsF_rep Value.bool false nc]; exact hbx) hsz (by omega) hot)
 have hOBw : w.heap.size ≤ OB := by omega
 clear hK hF hOB hO hQ
 generalize hadj : adjR can free nc = adj at *
 go_loopg [10, 9] (ns - fr) (fun gk iv cv wr => ∃ (n m : Nat) (o : Nat → Option Nat), iv = .int .i64 n ∧ cv = .int .i64 m ∧ fr ≤ n ∧ n ≤ ns ∧ m ≤ n ∧ Hid (gk = ns - n) ∧ Hid (Runs adj ((List.range n).drop fr) o m) ∧ SeekAt base w.heap.size (w.heap.size + 5) F FB K C O OB Q nc ns hv can free wr ∧ Box wr OB 3 (cellsF ofV o nc) ∧ Below w.heap.size w wr ∧ w.heap.size + 5 ≤ wr.heap.size ∧ Hid (∀ r t, r < nc → o r = some t → t < ns))
 case atStart => exact ⟨fr, 0, fun _ => none, rfl, rfl, Nat.le_refl _, hfr, Nat.zero_le _, rfl, (by rw [List.drop_eq_nil_of_le (by rw [List.length_range]; exact Nat.le_refl _)]; exact Runs.nil), hS0', hT0, hb0, by omega, fun r t _ h => (by cases h)⟩
 case round =>
  clear hS0' hT0 hb0 hz0
  obtain ⟨n, m, o, rfl, rfl, hfn, hn, hm, hgk, hru, hS, hT, hb, hsz, hot⟩ := hrel
  have cK := hS.kbox.cell 0
  simp at cK
  by_cases hlt : n < ns
  ·
   have cQ := hS.qbox.cell 0
   have cF := hS.fbox.cell 0
   simp [seekV] at cQ cF
   have hn1 : (n : Int) < (ns : Int) := by omega
   have HC := Lib.hid (HSK.out n o wr.drew hlt (hS.srch hsz (Kp.refl (fun j => j = OB ∨ j = wr.heap.size) wr).drew) hT.drew hsz hot.out)
   have HFl : Hid ((List.range (n + 1)).drop fr = (List.range n).drop fr ++ [n]) := by
    show _ = _
    rw [List.range_succ, List.drop_append_of_le_length (by rw [List.length_range]; exact hfn)]
   have hw : IntKind.i64.wrap ((m : Int) + 1) = ((m + 1 : Nat) : Int) := by rw [IntWalk.i64_in _ (by omega)]; omega
   go_upto_region 8 with (fail)
   refine wp_region_held_drew (S := (fun wx => wx.cell? ⟨Q, 0, none⟩ = some (.func (.func 137) #[] #[.pointer (some ⟨F, 0, none⟩), .pointer (some ⟨K, 0, none⟩), .pointer (some ⟨O, 0, none⟩), .pointer (some ⟨Q, 0, none⟩)]) ∧ wx.cell? ⟨F, 0, none⟩ = some (.slice (some ⟨FB, 0, none⟩) nc nc))) (by kernel_rfl) ?hS (fun hHeld => ?_)
   case hS => exact ⟨cQ, cF⟩
   refine rt 0 (some 22) ?_
   refine rt 1 (some 23) ?_
   refine rt 2 (some 24) ?_
   refine rt 3 (some 25) ?_
   refine rcall (i := 4) (d := (some 26)) (by kernel_rfl) rfl (by kernel_rfl) (fun K hK => ?_)
   go_simp
   skip
   refine hK.out _ _ ?hS (fun hHeld => ?_)
   case hS => exact ⟨cell_later ((Below.refl wr.heap.size wr).drew.alloc (by show wr.heap.size ≤ _; exact Nat.le_refl _) (.cells (Array.replicate nc (.bool false)) 4)) cQ, cell_later ((Below.refl wr.heap.size wr).drew.alloc (by show wr.heap.size ≤ _; exact Nat.le_refl _) (.cells (Array.replicate nc (.bool false)) 4)) cF⟩
   clear hK K
   simp only [Act.put, lsetA, lsetZ, lsetS]
   refine rcall (i := 5) (d := (some 27)) (by kernel_rfl) rfl (by kernel_rfl) (fun K hK => ?_)
   go_simp
   refine HC.out.mono ?_; rintro e w1 ⟨b1, o1, s1, rfl, hS1, hT1, hZ1, hk1, hot1⟩; have hk2 := ((Kp.refl (fun j => j = OB ∨ j = wr.heap.size) wr).drew.alloc (.cells (Array.replicate nc (.bool false)) 4)).trans hk1; have hSn := hS.srch hsz hk2; have cQ1 := hSn.qbox.cell 0; have cF1 := hSn.fbox.cell 0; simp [seekV] at cQ1 cF1
   refine hK.out _ _ ?hS (fun hHeld => ?_)
   case hS => exact ⟨cQ1, cF1⟩
   clear hK K
   simp only [Act.put, lsetA, lsetZ, lsetS]
   refine wpAnyH_done (by kernel_rfl) ?_ _
   clear hHeld cQ cF cK hS hT
   have hb1 : Below w.heap.size w w1 := belowKp hb hk2 (fun k hk => by rcases hk with e | e <;> omega) (by omega)
   have hsz1 := Nat.le_trans hsz hk2.size
   have HRu := hru.out.snoc hS1
   rw [← HFl.out] at HRu
   have HRu2 := Lib.hid HRu
   clear hru HRu hS1 hk1 hk2 hb hsz hot HC hZ1 HFl
   cases b1
   ·
    go_wp2_with fail
    go_roundg (ns - (n + 1))
    case measure => have := hgk.out; omega
    case rel => exact ⟨n + 1, m, o1, by go_num, rfl, by omega, by omega, by omega, rfl, HRu2.out, hSn, hT1, hb1, hsz1, hot1⟩
   ·
    go_wp2_with fail
    go_roundg (ns - (n + 1))
    case measure => have := hgk.out; omega
    case rel => exact ⟨n + 1, m + 1, o1, by go_num, rfl, by omega, by omega, by omega, rfl, HRu2.out, hSn, hT1, hb1, hsz1, hot1⟩
  ·
   obtain rfl : n = ns := by omega
   go_wp2_with fail
   go_ret
   exact ⟨m, o, rfl, by rw [hadj]; exact hru.out, hm, hb⟩
/-- What is found is what can be found at most. -/
theorem runs_mostR {can : Nat → Nat → Bool} {nc ns : Nat} {mst : (Nat → Bool) → Nat → Nat} (hm : IsMost can nc ns mst) {free used : Nat → Bool} {k : Nat} (hfree : ∀ c, c < nc → free c = !used c) {o : Nat → Option Nat} {n : Nat}
  (h : Runs (adjR can free nc) ((List.range ns).drop k) o n) : n = mst used k := by
 have hnd : ((List.range ns).drop k).Nodup := List.nodup_range.sublist (List.drop_sublist _ _)
 refine MaxM.one ((h.max hnd).flip.same (fun a b => ?_)) (hm used k)
 have hmem : b ∈ (List.range ns).drop k ↔ b < ns ∧ k ≤ b := by
  rw [List.mem_drop_iff_getElem]
  constructor
  ·
   rintro ⟨i, hi, e⟩
   rw [List.getElem_range] at e
   rw [List.length_range] at hi
   omega
  ·
   rintro ⟨h1, h2⟩
   exact ⟨b - k, by rw [List.length_range]; omega, by rw [List.getElem_range]; omega⟩
 unfold Edg adjR
 rw [List.mem_filter, List.mem_range, hmem]
 constructor
 ·
  rintro ⟨⟨h1, h2⟩, h3, h4⟩
  simp only [Bool.and_eq_true] at h4
  rw [hfree a h3] at h4
  exact ⟨h3, h1, h2, by simpa using h4.2, h4.1⟩
 ·
  rintro ⟨h1, h2, h3, h4, h5⟩
  exact ⟨⟨h2, h3⟩, h1, by rw [h5, hfree a h1, h4]; rfl⟩
end Go.Proofs.YtbfhcdnchmddeaaGreatDoor
