/- Events: what they are, their sums, what is wrong with them. Plain. -/
import Derived.Test.YtnocceilpnmbpaaGreatDoorOrd
import Derived.Test.YtnocceilpnmbpaaGreatDoorKey
import Derived.Test.YtnocceilpnmbpaaGreatDoorText1
import Derived.Test.YtnocceilpnmbpaaGreatDoorMom
import Derived.Test.YtnocceilpnmbpaaGreatDoorNest
import Derived.Lib.ItoaNum
import Derived.Lib.Join
namespace Go.Proofs.YtnocceilpnmbpaaGreatDoor
open Go.RowKit
set_option linter.unusedVariables false
set_option linter.unusedSimpArgs false

/-- An event, with where its list lies. -/
structure Ev where
 sum : ByteArray
 desk : ByteArray
 at_ : Int
 after : List ByteArray
 kind : Int
 who : ByteArray
 paper : ByteArray
 wth : ByteArray
 txt : ByteArray
 a : Option Addr
 c : Nat
instance : Cel Ev := ⟨9, fun e => [.string e.sum, .string e.desk, .int .i64 e.at_, .slice e.a e.after.length e.c, .int .i64 e.kind, .string e.who, .string e.paper, .string e.wth, .string e.txt], fun _ => rfl, by decide, by simp [Value.oneCell']⟩
def Ev.agg (e : Ev) : Value := .agg #[.string e.sum, .string e.desk, .int .i64 e.at_, .slice e.a e.after.length e.c, .int .i64 e.kind, .string e.who, .string e.paper, .string e.wth, .string e.txt]
instance : Inhabited Ev := ⟨⟨⟨#[]⟩, ⟨#[]⟩, 0, [], 0, ⟨#[]⟩, ⟨#[]⟩, ⟨#[]⟩, ⟨#[]⟩, none, 0⟩⟩
/-- Its list is there. -/
def ERd (w : World) (e : Ev) : Prop := SA w e.a e.after ∧ e.after.length ≤ e.c
theorem ERd.below {w w' : World} {e : Ev} (h : ERd w e) (hb : Below w.heap.size w w') : ERd w' e := ⟨h.1.below hb, h.2⟩
instance : Nst Ev := ⟨fun e => e.a.toList, ERd, fun {w w' x} h k => ⟨h.1.blk (fun y hy => k y (by rw [hy]; simp)), h.2⟩⟩
/-- Events in memory. -/
def EvsAt (w : World) (a : Option Addr) (l : List Ev) : Prop := SA w a l ∧ ∀ e ∈ l, ERd w e
theorem EvsAt.below {w w' : World} {a : Option Addr} {l : List Ev} (h : EvsAt w a l) (hb : Below w.heap.size w w') : EvsAt w' a l := ⟨h.1.below hb, fun e he => (h.2 e he).below hb⟩
theorem EvsAt.alloc {w : World} {a : Option Addr} {l : List Ev} (h : EvsAt w a l) (o : Obj) : EvsAt (w.alloc o) a l := h.below ((Below.refl _ _).alloc (Nat.le_refl _) o)
theorem SA.ev {w : World} {a : Option Addr} {l : List Ev} (h : SA w a l) {i : Nat} (hi : i < l.length) :
  ∃ b off, a = some ⟨b, off, none⟩ ∧ w.cell? ⟨b, off + i * 9, none⟩ = some (.string l[i].sum) ∧ w.cell? ⟨b, off + i * 9 + 1, none⟩ = some (.string l[i].desk) ∧ w.cell? ⟨b, off + i * 9 + 2, none⟩ = some (.int .i64 l[i].at_)
   ∧ w.cell? ⟨b, off + i * 9 + 3, none⟩ = some (.slice l[i].a l[i].after.length l[i].c) ∧ w.cell? ⟨b, off + i * 9 + 4, none⟩ = some (.int .i64 l[i].kind) ∧ w.cell? ⟨b, off + i * 9 + 5, none⟩ = some (.string l[i].who)
   ∧ w.cell? ⟨b, off + i * 9 + 6, none⟩ = some (.string l[i].paper) ∧ w.cell? ⟨b, off + i * 9 + 7, none⟩ = some (.string l[i].wth) ∧ w.cell? ⟨b, off + i * 9 + 8, none⟩ = some (.string l[i].txt) := by
 obtain ⟨b, off, ha, hc⟩ := h.at hi
 exact ⟨b, off, ha, hc 0 (by decide), hc 1 (by decide), hc 2 (by decide), hc 3 (by decide), hc 4 (by decide), hc 5 (by decide), hc 6 (by decide), hc 7 (by decide), hc 8 (by decide)⟩
/-- Sizes of an event. -/
structure EvOk (e : Ev) : Prop where
 sum : e.sum.size ≤ 1000
 desk : e.desk.size ≤ 1000
 at1 : -1000000000 ≤ e.at_
 at2 : e.at_ ≤ 1000000000
 len : e.after.length ≤ 2000
 after : ∀ x ∈ e.after, x.size ≤ 1000
 kind1 : -1000 ≤ e.kind
 kind2 : e.kind ≤ 1000
 who : e.who.size ≤ 1000
 paper : e.paper.size ≤ 1000
 wth : e.wth.size ≤ 1000
 txt : e.txt.size ≤ 1000

/-- FNV-1a, from a state on. -/
def hashL : List UInt8 → Int → Int
 | [], h => h
 | c :: r, h => hashL r (IntKind.u64.wrap (bits .xor .u64 h (IntKind.u64.wrap (c.toNat : Int)) * 1099511628211))
def hexD (n : Nat) : UInt8 := if n < 10 then UInt8.ofNat (48 + n) else UInt8.ofNat (87 + n)
/-- Hexadecimal digits, the first ahead. -/
def hexL (u : Nat) : List UInt8 := if h : u < 16 then [hexD u] else hexL (u / 16) ++ [hexD (u % 16)]
termination_by u
decreasing_by omega
theorem hexL_small {u : Nat} (h : u < 16) : hexL u = [hexD u] := by rw [hexL, dif_pos h]
theorem hexL_big {u : Nat} (h : ¬ u < 16) : hexL u = hexL (u / 16) ++ [hexD (u % 16)] := by rw [hexL, dif_neg h]
theorem hexL_len : ∀ (k u : Nat), u < 16 ^ (k + 1) → (hexL u).length ≤ k + 1
 | 0, u, h => by rw [hexL_small (by simpa using h)]; simp
 | k + 1, u, h => by
  by_cases hs : u < 16
  ·
   rw [hexL_small hs]; simp
  ·
   rw [hexL_big hs, List.length_append]
   have := hexL_len k (u / 16) (by rw [Nat.pow_succ] at h; omega)
   simp
   omega
theorem hexL_pos (u : Nat) : 1 ≤ (hexL u).length := by
 by_cases hs : u < 16
 ·
  rw [hexL_small hs]; simp
 ·
  rw [hexL_big hs, List.length_append]; simp
def hashN (s : ByteArray) : Int := hashL s.data.toList 14695981039346656037
/-- The digest of a string. -/
def digB (s : ByteArray) : ByteArray := ⟨(List.replicate (16 - (hexL (hashN s).toNat).length) 48 ++ hexL (hashN s).toNat).toArray⟩
def dashB (s : ByteArray) : ByteArray := if s.size = 0 then ⟨#[45]⟩ else s
def itoaB (n : Int) : ByteArray := ⟨(Lib.itoa n).toArray⟩
def joinU (xs : List ByteArray) (sep : ByteArray) : ByteArray := ⟨(Lib.join (xs.map (·.data.toList)) sep.data.toList).toArray⟩
/-- What an event's sum is made of. -/
def evTxt (e : Ev) : ByteArray := joinU [e.desk, itoaB e.at_, dashB (joinU e.after ⟨#[43]⟩), itoaB e.kind, dashB e.who, dashB e.paper, dashB e.wth, e.txt] ⟨#[32]⟩
def evSum (e : Ev) : ByteArray := digB (evTxt e)
def hexSet : ByteArray := ⟨#[48, 49, 50, 51, 52, 53, 54, 55, 56, 57, 97, 98, 99, 100, 101, 102]⟩
/-- A string has the form of a sum. -/
def sumB (s : ByteArray) : Bool := decide (s.size = 16) && allIn s hexSet.data.toList
def sumsE (l : List ByteArray) (k : Nat) : Int := match l[k]? with | none => 0 | some s => if sumB s = false then 3 else if ordB l k then 7 else 0
def sumsF (l : List ByteArray) : Int := firstErr (sumsE l) l.length
def textK (k : Int) : Bool := decide (k = 1) || decide (k = 5)
/-- What is wrong with what an event says. -/
def formF (e : Ev) : Int :=
 if (!decide (e.kind = 7) && !keyB e.who) || (!keyB e.paper || (decide (e.kind = 6) && (decide (e.wth.size ≠ 0) && !keyB e.wth))) then 5
 else if (decide (e.kind = 7) && decide (e.who.size ≠ 0)) || (!decide (e.kind = 6) && decide (e.wth.size ≠ 0)) then 3
 else if (textK e.kind != decide (e.txt.size ≠ 0)) || (!plainB e.txt || decide (200 < e.txt.size)) then 3 else 0
def headF (e : Ev) : Int := if keyB e.desk = false then 5 else if momB e.at_ = false then 1 else if e.kind < 1 ∨ 7 < e.kind then 4 else formF e
/-- What is wrong with an event by itself, but for its sum. -/
def selfF (e : Ev) : Int := if headF e ≠ 0 then headF e else if 20 < e.after.length then 2 else sumsF e.after
def evE (l : List Ev) (i : Nat) : Int := match l[i]? with | none => 0 | some e => if sumB e.sum = false then 3 else if ordB (l.map (·.sum)) i then 7 else if selfF e ≠ 0 then selfF e else if e.sum ≠ evSum e then 15 else 0
/-- When the event with a sum happened. -/
def evAt (l : List Ev) (s : ByteArray) : Option Int := (l.find? (fun x => decide (x.sum = s))).map (·.at_)
def aft1 (l : List Ev) (e : Ev) (j : Nat) : Int := match e.after[j]? with | none => 0 | some s => match evAt l s with | none => 8 | some t => if e.at_ < t then 1 else 0
def aftE (l : List Ev) (i : Nat) : Int := match l[i]? with | none => 0 | some e => firstErr (aft1 l e) e.after.length
/-- Where the first of n errors stands. -/
def firstIx (f : Nat → Int) : Nat → Nat
 | 0 => 0
 | n + 1 => if firstErr f n ≠ 0 then firstIx f n else n
theorem firstIx_at {f : Nat → Int} {n k : Nat} (hk : k < n) (h : ∀ j, j < k → f j = 0) (he : f k ≠ 0) : firstIx f n = k := by
 induction n with
 | zero => omega
 | succ n ih =>
  rw [firstIx]
  by_cases hkn : k = n
  ·
   subst hkn
   rw [firstErr_zero h]; simp
  ·
   rw [if_pos (by rw [firstErr_at (by omega) h he]; exact he), ih (by omega)]
/-- What CheckEvents answers. -/
def evsRes (l : List Ev) : Int × Int :=
 if 1500 < l.length then (0, 2)
 else if firstErr (evE l) l.length ≠ 0 then (firstIx (evE l) l.length, firstErr (evE l) l.length)
 else if firstErr (aftE l) l.length ≠ 0 then (firstIx (aftE l) l.length, firstErr (aftE l) l.length)
 else (0, 0)
theorem evsRes_large {l : List Ev} (h : 1500 < l.length) : evsRes l = (0, 2) := by unfold evsRes; rw [if_pos h]
theorem evsRes_first {l : List Ev} {k : Nat} {er : Int} (h : ¬ 1500 < l.length) (hk : k < l.length) (hz : ∀ j, j < k → evE l j = 0) (he : evE l k = er) (h0 : er ≠ 0) : evsRes l = ((k : Int), er) := by
 subst he
 unfold evsRes
 rw [if_neg h, firstErr_at hk hz h0, if_pos h0, firstIx_at hk hz h0]
theorem evsRes_second {l : List Ev} {k : Nat} {er : Int} (h : ¬ 1500 < l.length) (h1 : ∀ j, j < l.length → evE l j = 0) (hk : k < l.length) (hz : ∀ j, j < k → aftE l j = 0) (he : aftE l k = er) (h0 : er ≠ 0) : evsRes l = ((k : Int), er) := by
 subst he
 unfold evsRes
 rw [if_neg h, firstErr_zero h1, if_neg (by simp), firstErr_at hk hz h0, if_pos h0, firstIx_at hk hz h0]
theorem evsRes_none {l : List Ev} (h : ¬ 1500 < l.length) (h1 : ∀ j, j < l.length → evE l j = 0) (h2 : ∀ j, j < l.length → aftE l j = 0) : evsRes l = (0, 0) := by
 unfold evsRes
 rw [if_neg h, firstErr_zero h1, if_neg (by simp), firstErr_zero h2, if_neg (by simp)]

/-- Events in the order of their sums. -/
def RiseE (l : List Ev) : Prop := l.Pairwise (fun x y => ltS x.sum y.sum)
theorem bl_ev : ∀ (x y : List UInt8), Op.bytesLess x y = decide (x < y)
 | _, [] => by simp [Op.bytesLess]
 | [], _ :: _ => by simp [Op.bytesLess]
 | a :: x, b :: y => by
  rw [Op.bytesLess, bl_ev x y, Bool.eq_iff_iff]
  simp [List.cons_lt_cons_iff]
theorem leB_false {a b : ByteArray} (h : leB a b = false) : ltS b a := by
 unfold leB at h
 rw [Bool.or_eq_false_iff, bl_ev, decide_eq_false_iff_not] at h
 rcases ltS_tri b a with h1 | h1 | h1
 ·
  exact h1
 ·
  subst h1; simp at h
 ·
  exfalso
  have := h.1
  rw [ByteArray.toList_eq, ByteArray.toList_eq] at this
  exact this h1
theorem evE_sorted {l : List Ev} (h : ∀ j, j < l.length → evE l j = 0) : RiseE l := by
 have step : ∀ p, (hp : p + 1 < l.length) → ltS l[p].sum l[p + 1].sum := fun p hp => by
  have h1 := h (p + 1) hp
  unfold evE at h1
  rw [List.getElem?_eq_getElem hp] at h1
  simp only at h1
  cases ho : ordB (l.map (·.sum)) (p + 1)
  ·
   have e := ordB_at (ks := l.map (·.sum)) (k := p + 1) (p := p) (x := l[p + 1].sum) (y := l[p].sum) rfl (by rw [List.getElem?_map, List.getElem?_eq_getElem hp]; rfl) (by rw [List.getElem?_map, List.getElem?_eq_getElem (by omega)]; rfl)
   rw [ho] at e
   exact leB_false e.symm
  ·
   rw [ho] at h1
   split at h1 <;> simp at h1
 refine List.pairwise_iff_getElem.2 (fun i j hi hj hij => ?_)
 obtain ⟨d, rfl⟩ : ∃ d, j = i + 1 + d := ⟨j - (i + 1), by omega⟩
 clear hij
 induction d with
 | zero => exact step i hj
 | succ d ih => exact ltS_trans (ih (by omega)) (step (i + 1 + d) hj)
/-- How many sums stand ahead of one. -/
def posE (l : List Ev) (s : ByteArray) : Nat := l.countP (fun x => decide (cmpS x.sum s < 0))
theorem posE_le (l : List Ev) (s : ByteArray) : posE l s ≤ l.length := List.countP_le_length
theorem posE_lt {l : List Ev} (h : RiseE l) (s : ByteArray) (t : Nat) (ht : t < l.length) : cmpS l[t].sum s < 0 ↔ t < posE l s := by
 induction l generalizing t with
 | nil => simp at ht
 | cons y r ih =>
  unfold RiseE at h
  rw [List.pairwise_cons] at h
  by_cases hy : cmpS y.sum s < 0
  ·
   have e : posE (y :: r) s = posE r s + 1 := by unfold posE; rw [List.countP_cons, if_pos (decide_eq_true hy)]
   rw [e]
   cases t with
   | zero => simp [hy]
   | succ t => rw [List.getElem_cons_succ, ih h.2 t (by simpa using ht)]; omega
  ·
   have hall : ∀ x ∈ y :: r, ¬ cmpS x.sum s < 0 := fun x hx hxa => by
    rcases List.mem_cons.1 hx with rfl | hx
    ·
     exact hy hxa
    ·
     exact hy (cmpS_lt.2 (ltS_trans (h.1 x hx) (cmpS_lt.1 hxa)))
   have e : posE (y :: r) s = 0 := by
    unfold posE
    rw [List.countP_eq_zero]
    exact fun x hx => by simpa using hall x hx
   rw [e]
   exact ⟨fun hc => absurd hc (hall _ (List.getElem_mem ht)), fun hc => by omega⟩
/-- An event has a sum. -/
def hasE (l : List Ev) (s : ByteArray) : Bool := l.any (fun x => decide (x.sum = s))
theorem hasE_pos {l : List Ev} (h : RiseE l) (s : ByteArray) : hasE l s = true ↔ ∃ hp : posE l s < l.length, l[posE l s].sum = s := by
 unfold hasE
 rw [List.any_eq_true]
 constructor
 ·
  rintro ⟨x, hx, hxs⟩
  have hxs := of_decide_eq_true hxs
  obtain ⟨t, ht, rfl⟩ := List.getElem_of_mem hx
  have h1 : ¬ t < posE l s := fun hc => by
   have := (posE_lt h s t ht).2 hc
   rw [hxs, cmpS_zero.2 rfl] at this
   omega
  have h2 : ¬ posE l s < t := fun hc => by
   have h3 : ¬ cmpS l[posE l s].sum s < 0 := fun h4 => by have := (posE_lt h s _ (by omega)).1 h4; omega
   have h5 := (List.pairwise_iff_getElem.1 h) (posE l s) t (by omega) ht hc
   rw [hxs] at h5
   exact h3 (cmpS_lt.2 h5)
  have e : t = posE l s := by omega
  subst e
  exact ⟨ht, hxs⟩
 ·
  rintro ⟨hp, hs⟩
  exact ⟨_, List.getElem_mem hp, by simpa using hs⟩
theorem evAt_none {l : List Ev} {s : ByteArray} (h : hasE l s = false) : evAt l s = none := by
 unfold evAt
 unfold hasE at h
 rw [List.any_eq_false] at h
 rw [List.find?_eq_none.2 (fun x hx => h x hx)]
 rfl
theorem evAt_pos {l : List Ev} (h : RiseE l) {s : ByteArray} {p : Nat} (hp : p < l.length) (hs : l[p].sum = s) : evAt l s = some l[p].at_ := by
 unfold evAt
 have : l.find? (fun x => decide (x.sum = s)) = some l[p] := by
  rw [List.find?_eq_some_iff_getElem]
  refine ⟨by simpa using hs, p, hp, rfl, fun j hj => ?_⟩
  have h5 := (List.pairwise_iff_getElem.1 h) j p (by omega) hp hj
  simp only [Bool.not_eq_true']
  refine decide_eq_false (fun e => ?_)
  rw [e, hs] at h5
  exact ltS_irrefl _ h5
 rw [this]; rfl
end Go.Proofs.YtnocceilpnmbpaaGreatDoor
