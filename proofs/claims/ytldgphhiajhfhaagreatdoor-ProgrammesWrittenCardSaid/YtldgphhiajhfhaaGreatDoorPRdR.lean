/- Reading a programme: ProgrammeFrom of the reference. -/
import Derived.Test.YtldgphhiajhfhaaGreatDoorSplit
import Derived.Test.YtldgphhiajhfhaaGreatDoorSame
import Derived.Test.YtldgphhiajhfhaaGreatDoorCost
import Derived.Test.YtldgphhiajhfhaaGreatDoorPlan1
import Derived.Test.YtldgphhiajhfhaaGreatDoorMakeGrid
import Derived.Test.YtldgphhiajhfhaaGreatDoorRegF
namespace Go.Proofs.YtldgphhiajhfhaaGreatDoor
open Go.RowKit
set_option linter.unusedVariables false
set_option linter.unusedSimpArgs false
abbrev Sc := ByteArray × ByteArray × List ByteArray
def sesW : ByteArray := ⟨#[115, 101, 115, 115, 105, 111, 110]⟩
def addPap (o : List Sc) (x : ByteArray) : List Sc := o.dropLast ++ (o.getLast?.map (fun c => (c.1, c.2.1, c.2.2 ++ [x]))).toList
def okPap (o : List Sc) (x : ByteArray) : Bool := !decide (x.size = 0) && (!has32 x && decide (0 < o.length))
def okWords (l : List ByteArray) : Bool := !l.any (fun y => decide (y = ⟨#[]⟩)) && (decide (l.length = 3) && decide (l.getD 0 ⟨#[]⟩ = sesW))
/-- One line more. -/
def stepP (o : List Sc) (s : ByteArray) : Option (List Sc) :=
 if pre2 s = true then (if okPap o (rest2 s) = true then some (addPap o (rest2 s)) else none)
 else (if okWords (cutB 32 s) = true then some (o ++ [((cutB 32 s).getD 1 ⟨#[]⟩, (cutB 32 s).getD 2 ⟨#[]⟩, [])]) else none)
def parseTo (l : List ByteArray) : Nat → Option (List Sc)
 | 0 => some []
 | k + 1 => (parseTo l k).bind (fun o => stepP o (l.getD k ⟨#[]⟩))
theorem parse_some {l : List ByteArray} {k : Nat} {o o' : List Sc} (h : parseTo l k = some o) (hs : stepP o (l.getD k ⟨#[]⟩) = some o') : parseTo l (k + 1) = some o' := by
 show (parseTo l k).bind _ = _
 rw [h]; exact hs
theorem parse_none {l : List ByteArray} {k : Nat} {o : List Sc} (h : parseTo l k = some o) (hs : stepP o (l.getD k ⟨#[]⟩) = none) : parseTo l (k + 1) = none := by
 show (parseTo l k).bind _ = _
 rw [h]; exact hs
theorem parse_dead {l : List ByteArray} {k : Nat} (h : parseTo l k = none) (m : Nat) : parseTo l (k + m) = none := by
 induction m with
 | zero => exact h
 | succ m ih =>
  show (parseTo l (k + m)).bind _ = _
  rw [ih]; rfl
/-- The first line that does not fit. -/
def badAt (l : List ByteArray) : Nat → Nat
 | 0 => 0
 | k + 1 => if (parseTo l k).isNone = true then badAt l k else k
theorem badAt_eq {l : List ByteArray} {i : Nat} {o : List Sc} (h : parseTo l i = some o) (h2 : parseTo l (i + 1) = none) (m : Nat) : badAt l (i + 1 + m) = i := by
 induction m with
 | zero =>
  show (if (parseTo l i).isNone = true then badAt l i else i) = i
  rw [h, if_neg (by simp)]
 | succ m ih =>
  show (if (parseTo l (i + 1 + m)).isNone = true then badAt l (i + 1 + m) else i + 1 + m) = i
  rw [parse_dead h2 m, if_pos (by simp), ih]
/-- What reading answers: the error, where, and what was read. -/
inductive RdCase (text : ByteArray) (F : List Sc → Int) : Int → Int → List Sc → Prop
 | large : 200000 < text.size → RdCase text F 2 0 []
 | bad (i : Nat) (o : List Sc) : ¬ 200000 < text.size → i < (cutB 10 text).length - 1 → parseTo (cutB 10 text) i = some o → stepP o ((cutB 10 text).getD i ⟨#[]⟩) = none → RdCase text F 9 i []
 | open_ (o : List Sc) : ¬ 200000 < text.size → parseTo (cutB 10 text) ((cutB 10 text).length - 1) = some o → ¬ (lastB (cutB 10 text)).size = 0 → RdCase text F 9 (((cutB 10 text).length - 1 : Nat) : Int) []
 | wrong (o : List Sc) : ¬ 200000 < text.size → parseTo (cutB 10 text) ((cutB 10 text).length - 1) = some o → (lastB (cutB 10 text)).size = 0 → F o ≠ 0 → RdCase text F (F o) 0 []
 | fine (o : List Sc) : ¬ 200000 < text.size → parseTo (cutB 10 text) ((cutB 10 text).length - 1) = some o → (lastB (cutB 10 text)).size = 0 → F o = 0 → RdCase text F 0 0 o
def readT (text : ByteArray) (F : List Sc → Int) : Int × Int × List Sc :=
 if 200000 < text.size then (2, 0, []) else
 match parseTo (cutB 10 text) ((cutB 10 text).length - 1) with
 | none => (9, (badAt (cutB 10 text) ((cutB 10 text).length - 1) : Nat), [])
 | some o => if ¬ (lastB (cutB 10 text)).size = 0 then (9, ((cutB 10 text).length - 1 : Nat), []) else if F o ≠ 0 then (F o, 0, []) else (0, 0, o)
theorem RdCase.is {text : ByteArray} {F : List Sc → Int} {e i : Int} {o : List Sc} (h : RdCase text F e i o) : readT text F = (e, i, o) := by
 unfold readT
 cases h with
 | large h => rw [if_pos h]
 | bad i o h1 h2 h3 h4 =>
  have h5 := parse_none h3 h4
  obtain ⟨m, hm⟩ : ∃ m, (cutB 10 text).length - 1 = i + 1 + m := ⟨(cutB 10 text).length - 1 - (i + 1), by omega⟩
  rw [if_neg h1, hm, parse_dead h5 m, badAt_eq h3 h5 m]
 | open_ o h1 h2 h3 => rw [if_neg h1, h2]; simp only; rw [if_pos h3]
 | wrong o h1 h2 h3 h4 => rw [if_neg h1, h2]; simp only; rw [if_neg (by simpa using h3), if_pos h4]
 | fine o h1 h2 h3 h4 => rw [if_neg h1, h2]; simp only; rw [if_neg (by simpa using h3), if_neg (by simpa using h4)]
theorem RdCase.one {text : ByteArray} {F : List Sc → Int} {e1 e2 i1 i2 : Int} {o1 o2 : List Sc} (h : RdCase text F e1 i1 o1) (k : RdCase text F e2 i2 o2) : e1 = e2 ∧ i1 = i2 ∧ o1 = o2 := by
 have := h.is.symm.trans k.is
 simpa using this
def blankS (c : Sc) : Ses := ⟨c.1, c.2.1, c.2.2, none, 0⟩
theorem strip_map (p : List Ses) : (p.map keyOf3).map blankS = p.map strip := by rw [List.map_map]; rfl
/-- The fault of what was read. -/
def faultC (g : Grd) (o : List Sc) : Int := progFault g (o.map blankS)
theorem faultC_of (g : Grd) {p : List Ses} {o : List Sc} (h : p.map keyOf3 = o) : faultC g o = progFault g p := by
 unfold faultC
 rw [← h, strip_map, fault_strip]
/-- What Read answers. -/
def RdRes (g : Grd) (text : ByteArray) (w : World) (e : Ending) (w' : World) : Prop :=
 Below w.heap.size w w' ∧ ∃ (er i : Int) (o : List Sc) (p : List Ses) (a : Option Addr) (c : Nat), RdCase text (faultC g) er i o ∧ e = .returned (.tuple #[.slice a p.length c, .int .i64 i, .int .i64 er]) ∧ PRg w' a p ∧ p.map keyOf3 = o ∧ p.length ≤ 200000 ∧ ∀ s ∈ p, s.papers.length ≤ 200000
theorem addPap_set {l : List Ses} (h : 0 < l.length) (x : ByteArray) (a : Option Addr) (c : Nat) : (l.set (l.length - 1) ⟨(l[l.length - 1]'(by omega)).slot, (l[l.length - 1]'(by omega)).room, (l[l.length - 1]'(by omega)).papers ++ [x], a, c⟩).map keyOf3 = addPap (l.map keyOf3) x := by
 obtain ⟨r, s, rfl⟩ : ∃ r s, l = r ++ [s] := ⟨l.dropLast, l.getLast (by intro e; rw [e] at h; cases h), (List.dropLast_concat_getLast _).symm⟩
 have e1 : (r ++ [s]).length - 1 = r.length := by simp
 have e2 : (r ++ [s])[(r ++ [s]).length - 1]'(by simp) = s := by simp [e1]
 rw [e2, e1]
 unfold addPap
 simp [keyOf3]
theorem step_pap {o : List Sc} {s : ByteArray} (h1 : pre2 s = true) (h2 : okPap o (rest2 s) = true) : stepP o s = some (addPap o (rest2 s)) := by unfold stepP; rw [if_pos h1, if_pos h2]
theorem step_badPap {o : List Sc} {s : ByteArray} (h1 : pre2 s = true) (h2 : okPap o (rest2 s) = false) : stepP o s = none := by unfold stepP; rw [if_pos h1, if_neg (by simpa using h2)]
theorem step_ses {o : List Sc} {s : ByteArray} (h1 : pre2 s = false) (h2 : okWords (cutB 32 s) = true) : stepP o s = some (o ++ [((cutB 32 s).getD 1 ⟨#[]⟩, (cutB 32 s).getD 2 ⟨#[]⟩, [])]) := by unfold stepP; rw [if_neg (by simpa using h1), if_pos h2]
theorem step_badSes {o : List Sc} {s : ByteArray} (h1 : pre2 s = false) (h2 : okWords (cutB 32 s) = false) : stepP o s = none := by unfold stepP; rw [if_neg (by simpa using h1), if_neg (by simpa using h2)]
end Go.Proofs.YtldgphhiajhfhaaGreatDoor
namespace Go.Proofs.YtldgphhiajhfhaaGreatDoor
open Go.RowKit
set_option linter.unusedVariables false
set_option linter.unusedSimpArgs false
/-- What Read of the program answers, at any grid. -/
def ReadRes (g : Grd) (text : ByteArray) (w : World) (e : Ending) (w' : World) : Prop :=
 (gridFault g ≠ 0 ∧ Below w.heap.size w w' ∧ e = .returned (.tuple #[.slice none 0 0, .int .i64 0, .int .i64 (gridFault g)])) ∨ (gridFault g = 0 ∧ RdRes g text w e w')
/-- What is read so far, in memory. -/
def RdAt (base k : Nat) (l : List Ses) (v : Value) (w : World) : Prop := PW base w v l ∧ l.length ≤ k ∧ ∀ s ∈ l, SesN k s
theorem rd_bad {g : Grd} {text : ByteArray} {w w' : World} {er i : Int} (hb : Below w.heap.size w w') (h : RdCase text (faultC g) er i []) : RdRes g text w (.returned (.tuple #[.slice none 0 0, .int .i64 i, .int .i64 er])) w' :=
 ⟨hb, er, i, [], [], none, 0, h, rfl, ⟨.inl rfl, fun s hs => by cases hs⟩, rfl, Nat.zero_le _, fun s hs => by cases hs⟩
theorem PW.addr {base : Nat} {w : World} {a : Option Addr} {c : Nat} {l : List Ses} (h : PW base w (.slice a l.length c) l) (hl : 0 < l.length) : ∃ b, a = some ⟨b, 0, none⟩ := by
 obtain ⟨a', c', he, hsa, hf, -⟩ := h.own.form
 simp only [Value.slice.injEq] at he
 obtain ⟨rfl, -, -⟩ := he
 rcases hf with hf | ⟨b, hf, -⟩
 ·
  rcases hsa with h2 | ⟨b, off, h2, -⟩
  ·
   rw [h2] at hl; simp at hl
  ·
   rw [hf] at h2; cases h2
 ·
  exact ⟨b, hf⟩
theorem addPap_setJ {l : List Ses} {j : Nat} (h : l.length = j + 1) (x : ByteArray) (a : Option Addr) (c : Nat) : (l.set j ⟨(l[j]'(by omega)).slot, (l[j]'(by omega)).room, (l[j]'(by omega)).papers ++ [x], a, c⟩).map keyOf3 = addPap (l.map keyOf3) x := by
 have e := addPap_set (l := l) (by omega) x a c
 have hj : l.length - 1 = j := by omega
 simp only [hj] at e
 exact e
theorem tlN {t : ByteArray} (h : ¬ t.size = 0) : ¬ t.toList = [] := fun e => h (by
 have e2 : t = ⟨#[]⟩ := toList_inj.1 (by rw [e, ByteArray.toList_eq])
 rw [e2]; rfl)
set_option maxRecDepth 100000 in
set_option maxHeartbeats 8000000 in
theorem read_any (g : Grd) (text : ByteArray) (w : World) (hg : GRd w g) (hz : GSm g) (hE : EnvM w) (ht : text.size ≤ 1000) :
  Calls Tryz.prog 11 #[g.agg, .string text] w (ReadRes g text w) := by
 have HC := Lib.hid (fun W (h : Below w.heap.size w W) => checkGrid_any g W (hg.below h) hz)
 have HF := Lib.hid (fun W (h : Below w.heap.size w W) => fieldOf_any g W (hg.below h) hz)
 have HG := Lib.hid (fun W (h : Below w.heap.size w W) => hg.below h)
 have HLN := Lib.hid (fun W (h : Below w.heap.size w W) => lines_any text W (hE.below h) (by omega))
 have HEM := Lib.hid (fun W (h : Below w.heap.size w W) => hE.below h)
 have HN := Lib.hid (@gnd_of g)
 have HZ := Lib.hid hz
 unfold ReadRes
 rw [Grd.agg_eq] at HC HF ⊢
 have hX := Box.new w 32 #[.slice g.ra g.rooms.length g.rc, .slice g.sa g.slots.length g.sc, .slice g.ta g.talks.length g.tc, .slice g.wa g.wishes.length g.wc, .slice g.ba g.bans.length g.bc]
 have hb0 : Below w.heap.size w (w.alloc (.cells #[.slice g.ra g.rooms.length g.rc, .slice g.sa g.slots.length g.sc, .slice g.ta g.talks.length g.tc, .slice g.wa g.wishes.length g.wc, .slice g.ba g.bans.length g.bc] 32)) := (Below.refl _ _).alloc (Nat.le_refl _) _
 generalize hgf : gridFault g = gf at *
 have Hgf := Lib.hid hgf
 clear hg hz hE hgf
 go_enter Tryz.func11, Tryz.ntmps11
 go_upto_region 1 with (fail)
 generalize w.alloc (.cells #[.slice g.ra g.rooms.length g.rc, .slice g.sa g.slots.length g.sc, .slice g.ta g.talks.length g.tc, .slice g.wa g.wishes.length g.wc, .slice g.ba g.bans.length g.bc] 32) = w1 at *
 have hX_l := hX.lt; have hX_0 := hX.cell 0; have hX_1 := hX.cell 1; have hX_2 := hX.cell 2; have hX_3 := hX.cell 3; have hX_4 := hX.cell 4; simp at hX_0 hX_1 hX_2 hX_3 hX_4
 go_wp2_with fail
 clear hX_l hX_0 hX_1 hX_2 hX_3 hX_4
 refine (HC.out _ hb0).mono ?_
 rintro e w2 ⟨rfl, hb1⟩
 have hX1 := hX.below hb1
 replace hb1 := below_next hb0 hb1
 clear HC hb0 hX
 by_cases q1 : gf = 0
 ·
  subst q1
  have hn := HN.out rfl
  have hd : decide ((200000 : Int) < (text.size : Int)) = false := decide_eq_false (by omega)
  go_wp2_with fail
  refine (HLN.out _ hb1).mono ?_
  rintro e w3 ⟨la, lc, rfl, hsa, hlc, hb3⟩
  have hb4 := below_next hb1 hb3
  have hLp := cutC_pos 10 text
  have hLs := cutC_sizes 10 text
  have hLl := cutC_len 10 text
  have HC1 : Hid (∀ i o, i < (cutB 10 text).length - 1 → parseTo (cutB 10 text) i = some o → stepP o ((cutB 10 text).getD i ⟨#[]⟩) = none → RdCase text (faultC g) 9 (i : Nat) []) := fun i o hi h1 h2 => RdCase.bad i o (by omega) hi h1 h2
  have HC2 : Hid (∀ o, parseTo (cutB 10 text) ((cutB 10 text).length - 1) = some o → ¬ (lastB (cutB 10 text)).size = 0 → RdCase text (faultC g) 9 (((cutB 10 text).length - 1 : Nat) : Int) []) := fun o h1 h2 => RdCase.open_ o (by omega) h1 h2
  have HC3 : Hid (∀ o, parseTo (cutB 10 text) ((cutB 10 text).length - 1) = some o → (lastB (cutB 10 text)).size = 0 → faultC g o ≠ 0 → RdCase text (faultC g) (faultC g o) 0 []) := fun o h1 h2 h3 => RdCase.wrong o (by omega) h1 h2 h3
  have HC4 : Hid (∀ o, parseTo (cutB 10 text) ((cutB 10 text).length - 1) = some o → (lastB (cutB 10 text)).size = 0 → faultC g o = 0 → RdCase text (faultC g) 0 0 o) := fun o h1 h2 h3 => RdCase.fine o (by omega) h1 h2 h3
  generalize cutB 10 text = L at *
  obtain ⟨n, hn1⟩ : ∃ n, L.length = n + 1 := ⟨L.length - 1, by omega⟩
  have hn0 : L.length - 1 = n := by omega
  rw [hn0] at HC1 HC2 HC3 HC4 hlc ⊢
  rw [hn1] at hlc ⊢
  have HL : Hid (∀ i, i < n + 1 → ∃ b off, la = some ⟨b, off, none⟩ ∧ ∃ s, L.getD i ⟨#[]⟩ = s ∧ s.size ≤ 1000 ∧ ∀ W, Below w3.heap.size w3 W → W.cell? ⟨b, off + i, none⟩ = some (.string s)) := fun i hi => by
   have hil : i < L.length := by omega
   obtain ⟨b, off, ha, -⟩ := hsa.str hil
   refine ⟨b, off, ha, L[i], by rw [List.getD_eq_getElem?_getD, List.getElem?_eq_getElem hil]; rfl, by have := hLs _ (List.getElem_mem hil); omega, fun W hW => ?_⟩
   obtain ⟨b2, off2, ha2, c⟩ := (hsa.below hW).str hil
   rw [ha] at ha2
   cases ha2
   exact c
  have HBAD := HC1
  have Hb4 := Lib.hid hb4
  have HEM3 : Hid (∀ W, Below w3.heap.size w3 W → EnvM W) := fun W h => HEM.out W (below_next hb4 h)
  have hn10 : n ≤ 1000 := by omega
  have hX3 := hX1.below hb3
  have hz3 := hb4.size
  clear hsa hLp hLs hLl hn0 hn1 HC1 HLN HEM hb4 hb3 hb1 hX1
  by_cases hen : (lastB L).size = 0
  ·
   rw [if_pos hen] at hlc ⊢
   rw [decide_eq_true hen]
   have Hen := Lib.hid hen
   clear hen
   go_wp2_with fail
   go_loopg [34, 10] n (fun gk iv ov wr => ∃ (k : Nat) (v : Value) (l : List Ses), iv = .int .i64 k ∧ v = ov ∧ k ≤ n ∧ Hid (gk = n - k) ∧ RdAt w3.heap.size k l v wr ∧ Hid (parseTo L k = some (l.map keyOf3)) ∧ Below w3.heap.size w3 wr)
   case atStart => exact ⟨0, _, [], rfl, rfl, by omega, rfl, ⟨PW.nil _ _, Nat.le_refl _, fun s hs => by cases hs⟩, rfl, Below.refl _ _⟩
   case round =>
    obtain ⟨k, v, l, rfl, rfl, hk, hgk, hA, hpr, hb⟩ := hrel
    by_cases hkn : k < n
    ·
     obtain ⟨gb, go, hla, s, hs, hss, hcl⟩ := HL.out k (by omega)
     have c0 := hcl _ hb
     have Hla := Lib.hid hla
     have HBd := Lib.hid (HBAD.out k _ hkn hpr.out)
     rw [hs] at HBd
     have HST : Hid (∀ o', stepP (l.map keyOf3) s = some o' → parseTo L (k + 1) = some o') := fun o' h => parse_some hpr.out (by rw [hs]; exact h)
     rw [hla]
     clear hla hs hcl
     have HCP := Lib.hid (cut2_any s wr)
     have hxs := rest2_size s
     cases hp2 : pre2 s
     ·
      have HS1 : Hid (okWords (cutB 32 s) = true → stepP (l.map keyOf3) s = some (l.map keyOf3 ++ [((cutB 32 s).getD 1 ⟨#[]⟩, (cutB 32 s).getD 2 ⟨#[]⟩, [])])) := fun h => step_ses hp2 h
      have HS0 : Hid (okWords (cutB 32 s) = false → stepP (l.map keyOf3) s = none) := fun h => step_badSes hp2 h
      rw [hp2] at HCP
      have hlW := cutC_len 32 s
      have hzW := cutC_sizes 32 s
      have HWD := Lib.hid (wordsK_any s wr (HEM3.out _ hb) (by omega))
      have HK : Hid (okWords (cutB 32 s) = (!(cutB 32 s).any (fun y => decide (y = ⟨#[]⟩)) && (decide ((cutB 32 s).length = 3) && decide ((cutB 32 s).getD 0 ⟨#[]⟩ = sesW)))) := rfl
      clear hp2
      generalize cutB 32 s = W at *
      generalize rest2 s = xr at *
      cases ha : W.any (fun y => decide (y = ⟨#[]⟩))
      ·
       rw [ha] at HWD HK
       by_cases h3 : W.length = 3
       ·
        obtain ⟨a, b, c, rfl⟩ : ∃ a b c, W = [a, b, c] := by
         match W, h3 with
         | [a, b, c], _ => exact ⟨a, b, c, rfl⟩
        have hzb : b.size ≤ 1000 := by have := hzW b (by simp); omega
        have hzc : c.size ≤ 1000 := by have := hzW c (by simp); omega
        clear h3 ha hzW hlW
        by_cases hs7 : a = sesW
        ·
         subst hs7
         have Hpr := Lib.hid (HST.out _ (HS1.out (by rw [HK.out]; simp)))
         clear HS1 HS0 HK HBd HST hxs
         go_wp2_with fail
         refine HCP.out.mono ?_
         rintro e w9 ⟨rfl, rfl⟩
         go_wp2_with fail
         refine HWD.out.mono ?_
         rintro e w9 ⟨wa, wc, rfl, hsw, hwl, hb9⟩
         obtain ⟨wb, wo, hwa, f0⟩ := hsw.str (i := 0) (by simp)
         subst hwa
         have f0 : w9.cell? ⟨wb, wo, none⟩ = some (.string ⟨#[115, 101, 115, 115, 105, 111, 110]⟩) := f0
         have f1 : w9.cell? ⟨wb, wo + 1, none⟩ = some (.string b) := by obtain ⟨wb2, wo2, h, f⟩ := hsw.str (i := 1) (by simp); cases h; exact f
         have f2 : w9.cell? ⟨wb, wo + 2, none⟩ = some (.string c) := by obtain ⟨wb2, wo2, h, f⟩ := hsw.str (i := 2) (by simp); cases h; exact f
         obtain ⟨hpw, hll, hsn⟩ := hA
         have hpwB := hpw.below hb9
         have hbB := below_next hb hb9
         have hol := hpwB.own.lt
         have hzB := hbB.size
         have HLN : Hid (∀ W, Below w9.heap.size w9 W → W.cell? ⟨wb, wo + 1, none⟩ = some (.string b) ∧ W.cell? ⟨wb, wo + 2, none⟩ = some (.string c)) := fun W h => ⟨cell_later h f1, cell_later h f2⟩
         have hsN : Hid (∀ s ∈ l ++ [(⟨b, c, [], none, 0⟩ : Ses)], SesN (k + 1) s) := fun s hs => by
          rcases List.mem_append.1 hs with h1 | h1
          ·
           exact (hsn s h1).mono (by omega)
          ·
           rw [List.mem_singleton] at h1
           subst h1
           exact ⟨hzb, hzc, Nat.zero_le _, fun x hx => by cases hx⟩
         have Hpr2 : Hid (parseTo L (k + 1) = some ((l ++ [(⟨b, c, [], none, 0⟩ : Ses)]).map keyOf3)) := by
          show _ = _
          rw [Hpr.out, List.map_append]; rfl
         have hpwC := hpwB.alloc (.cells #[.string b, .string c, .slice none 0 0] 67)
         have hownC := hpwC.own.drew
         have hpwD := hpwC.below (Below.refl _ _).drew
         have hnw : ¬ v.ownBlock = some wb := fun e => by have := (hpw.own.lt wb e).2; have := hwl _ rfl; simp at this; omega
         clear hpw hsn hb hb9 Hpr HLN hsw
         go_upto_region 20 with (fail)
         clear f0
         refine wp_region_held_drew (S := (fun wq => wq.cell? ⟨wb, wo + 1, none⟩ = some (.string b) ∧ wq.cell? ⟨wb, wo + 2, none⟩ = some (.string c))) (by kernel_rfl) ?hS (fun hHeld => ?_)
         case hS => exact ⟨f1, f2⟩
         refine rt 0 (some 106) ?_
         refine rt 1 (some 107) ?_
         refine rt 2 (some 108) ?_
         refine rt 3 (some 109) ?_
         refine rt 4 (some 110) ?_
         refine rt 5 (some 111) ?_
         refine rt 6 (some 112) ?_
         refine rt 7 (some 113) ?_
         refine rcall (i := 8) (d := (some 114)) (by kernel_rfl) rfl (by kernel_rfl) (fun K hK => ?_)
         go_simp
         skip
         refine hK.out _ _ ?hS (fun hHeld => ?_)
         case hS => exact (have hA := (Below.refl w9.heap.size w9).drew.alloc (by show w9.heap.size ≤ _; exact Nat.le_refl _) (.cells #[.string b, .string c, .slice none 0 0] 67); ⟨cell_later hA f1, cell_later hA f2⟩)
         clear hK K
         simp only [Act.put, lsetA, lsetZ, lsetS]
         refine rcall (i := 9) (d := (some 115)) (by kernel_rfl) rfl (by kernel_rfl) (fun K hK => ?_)
         refine step_append_lie (α := Ses) (by rfl) _ _ 34 (by rfl) 67 56 (.agg #[.string ⟨#[]⟩, .string ⟨#[]⟩, .slice none 0 0]) Tryz.underlying34 infoSesA (by rfl) v l (by rfl) hownC (⟨b, c, [], none, 0⟩ : Ses) w9.heap.size (by rfl) (Box.drew (Box.new w9 67 #[.string b, .string c, .slice none 0 0])) (by omega) (by omega) (by simp; omega) ?_; intro g9 cap9 wX hown9 hg9 hat9; have hk9 : Kp (fun q => v.ownBlock = some q) w9 wX := (((Kp.refl (fun q => v.ownBlock = some q) w9).alloc (.cells #[.string b, .string c, .slice none 0 0] 67)).drew).grown hg9 (fun q hq => .inl hq)
         refine hK.out _ _ ?hS (fun hHeld => ?_)
         case hS => exact ⟨cellKp hk9 hnw f1, cellKp hk9 hnw f2⟩
         clear hK K
         simp only [Act.put, lsetA, lsetZ, lsetS]
         refine rt 10 (some 10) ?_
         refine wpAnyH_done (by kernel_rfl) ?_ _
         have hpwE := hpwD.snoc (x := (⟨b, c, [], none, 0⟩ : Ses)) (Own.nil _ _ _) (fun j hj e => by cases e) (fun y hy j hj e => by cases e) hg9 hown9 (atNew hat9)
         have hbE := below_kp hbB hk9 (fun q hq => (hol q hq).1) (by omega)
         have HLE : Hid ((l ++ [(⟨b, c, [], none, 0⟩ : Ses)]).length = l.length + 1) := by show _ = _; rw [List.length_append]; rfl
         clear hHeld hk9 hg9 hown9 hat9 hpwD hpwC hownC hbB f1 f2 hol
         go_wp2_with fail
         rw [← Hla.out]
         go_roundg (n - (k + 1))
         case measure => have := hgk.out; omega
         case rel => exact ⟨k + 1, _, _, by go_num, rfl, by omega, rfl, ⟨hpwE, by rw [HLE.out]; omega, hsN.out⟩, Hpr2.out, hbE⟩
        ·
         have h1 := HBd.out (HS0.out (by rw [HK.out]; simp [hs7]))
         have H1 := Lib.hid h1
         have Hs7 := Lib.hid hs7
         clear h1 HS1 HS0 HK HBd HST hxs hs7
         go_wp2_with fail
         refine HCP.out.mono ?_
         rintro e w9 ⟨rfl, rfl⟩
         go_wp2_with fail
         refine HWD.out.mono ?_
         rintro e w9 ⟨wa, wc, rfl, hsw, hwl, hb9⟩
         obtain ⟨wb, wo, hwa, f0⟩ := hsw.str (i := 0) (by simp)
         subst hwa
         have f0 : w9.cell? ⟨wb, wo, none⟩ = some (.string a) := f0
         replace hb := below_next hb hb9
         have e1 : ¬ a = ⟨#[115, 101, 115, 115, 105, 111, 110]⟩ := Hs7.out
         have e2 : (a.toList == [115, 101, 115, 115, 105, 111, 110]) = false := by rw [beq_eq_false_iff_ne]; intro e; exact e1 (toList_inj.1 (by rw [e, ByteArray.toList_eq]))
         go_wp2_with fail
         refine bodyPost_ret (v := .tuple #[.slice none 0 0, .int .i64 (k : Nat), .int .i64 9]) (by simp only [results, Tryz.results11]; go_simp) rfl ?_
         exact rd_bad (below_next Hb4.out hb) (H1.out)
       ·
        have h1 := HBd.out (HS0.out (by rw [HK.out, decide_eq_false h3]; rfl))
        have hd3 : ((W.length : Int) == 3) = false := by rw [beq_eq_false_iff_ne]; omega
        have H1 := Lib.hid h1
        clear h1 HS1 HS0 HK HBd HST hxs h3 ha hzW hlW
        go_wp2_with fail
        refine HCP.out.mono ?_
        rintro e w9 ⟨rfl, rfl⟩
        go_wp2_with fail
        refine HWD.out.mono ?_
        rintro e w9 ⟨wa, wc, rfl, hsw, hwl, hb9⟩
        replace hb := below_next hb hb9
        go_wp2_with fail
        refine bodyPost_ret (v := .tuple #[.slice none 0 0, .int .i64 (k : Nat), .int .i64 9]) (by simp only [results, Tryz.results11]; go_simp) rfl ?_
        exact rd_bad (below_next Hb4.out hb) (H1.out)
      ·
       rw [ha] at HWD HK
       have h1 := HBd.out (HS0.out (by rw [HK.out]; rfl))
       have H1 := Lib.hid h1
       clear h1 HS1 HS0 HK HBd HST hxs ha hzW hlW
       go_wp2_with fail
       refine HCP.out.mono ?_
       rintro e w9 ⟨rfl, rfl⟩
       go_wp2_with fail
       refine HWD.out.mono ?_
       rintro e w9 ⟨wa, wc, rfl, hsw, hwl, hb9⟩
       replace hb := below_next hb hb9
       go_wp2_with fail
       refine bodyPost_ret (v := .tuple #[.slice none 0 0, .int .i64 (k : Nat), .int .i64 9]) (by simp only [results, Tryz.results11]; go_simp) rfl ?_
       exact rd_bad (below_next Hb4.out hb) (H1.out)
     ·
      have HS1 : Hid (okPap (l.map keyOf3) (rest2 s) = true → stepP (l.map keyOf3) s = some (addPap (l.map keyOf3) (rest2 s))) := fun h => step_pap hp2 h
      have HS0 : Hid (okPap (l.map keyOf3) (rest2 s) = false → stepP (l.map keyOf3) s = none) := fun h => step_badPap hp2 h
      rw [hp2] at HCP
      have HK : Hid (okPap (l.map keyOf3) (rest2 s) = (!decide ((rest2 s).size = 0) && (!has32 (rest2 s) && decide (0 < l.length)))) := by unfold okPap; rw [List.length_map]; rfl
      clear hp2
      generalize rest2 s = x at *
      have HH := Lib.hid (has32_any x wr)
      by_cases hx0 : x.size = 0
      ·
       have h1 := HBd.out (HS0.out (by rw [HK.out, decide_eq_true hx0]; rfl))
       obtain rfl : x = ⟨#[]⟩ := by
        obtain ⟨d⟩ := x
        have : d.size = 0 := hx0
        rw [Array.eq_empty_of_size_eq_zero this]
       have H1 := Lib.hid h1
       clear hx0 h1 HS1 HS0 HK HBd HST
       go_wp2_with fail
       refine HCP.out.mono ?_
       rintro e w9 ⟨rfl, rfl⟩
       go_wp2_with fail
       refine bodyPost_ret (v := .tuple #[.slice none 0 0, .int .i64 (k : Nat), .int .i64 9]) (by simp only [results, Tryz.results11]; go_simp) rfl ?_
       exact rd_bad (below_next Hb4.out hb) (H1.out)
      ·
       have e1 := tlN hx0
       have e2 : x.toList.isEmpty = false := by simpa using e1
       cases hh : has32 x
       ·
        rw [hh] at HH HK
        by_cases hl0 : 0 < l.length
        ·
         have Hpr := Lib.hid (HST.out _ (HS1.out (by rw [HK.out, decide_eq_false hx0, decide_eq_true hl0]; rfl)))
         have hd0 : decide ((0 : Int) < (l.length : Int)) = true := decide_eq_true (by omega)
         obtain ⟨hpw, hll, hsn⟩ := hA
         obtain ⟨pa, pc, rfl, hsaS, -, -⟩ := hpw.own.form
         obtain ⟨gg, rfl⟩ := PW.addr hpw hl0
         obtain ⟨j, hj⟩ : ∃ j, l.length = j + 1 := ⟨l.length - 1, by omega⟩
         have hjl : j < l.length := by omega
         rw [← addPap_setJ hj x none 0] at Hpr
         have hw : IntKind.i64.wrap ((l.length : Int) - 1) = (j : Int) := by rw [IntWalk.i64_in _ (by omega)]; omega
         have hj0 : (0 : Int) ≤ (j : Int) := by omega
         have hj2 : (j : Int) < (l.length : Int) := by omega
         obtain ⟨mb, moff, ha', -, -, c2⟩ := hsaS.sesC hjl
         cases ha'
         rw [Nat.zero_add] at c2
         have hyo := hpw.inn _ (List.getElem_mem hjl)
         have hya := hpw.apt _ (List.getElem_mem hjl)
         have hyn := hsn _ (List.getElem_mem hjl)
         have hyl := hyo.lt
         have hgl := hpw.own.lt gg rfl
         have hpwA := hpw.alloc (.cells #[.string x] 9)
         have hyoA := hyo.alloc (.cells #[.string x] 9)
         have hbA := hb.alloc hb.size (.cells #[.string x] 9)
         have HPP := Lib.hid (fun (w1 : World) (a2 : Option Addr) (c2 : Nat) (v2 : Value) (hv2 : v2 = .slice a2 (l[j].papers ++ [x]).length c2) (hkp : Kp (fun q => l[j].pv.ownBlock = some q) (wr.alloc (.cells #[.string x] 9)) w1) (h2 : Own w3.heap.size 9 w1 v2 (l[j].papers ++ [x])) (hat : ∀ q, v2.ownBlock = some q → l[j].pv.ownBlock = some q ∨ (wr.alloc (.cells #[.string x] 9)).heap.size ≤ q) => PW.papers hpwA hjl hv2 hkp h2 hat)
         have hgn : ¬ (l[j].pv.ownBlock = some gg) := fun e => hya gg rfl e
         have c2A := cell_later ((Below.refl wr.heap.size wr).alloc (Nat.le_refl _) (.cells #[.string x] 9)) c2
         obtain ⟨cr, hbx⟩ := hpwA.own.box
         have hpl := hyn.2.2.1
         have hzr := hb.size
         have Hlk : Hid (∀ (a2 : Option Addr) (c2 : Nat), (l.set j ⟨l[j].slot, l[j].room, l[j].papers ++ [x], a2, c2⟩).length = l.length ∧ (∀ s ∈ l.set j ⟨l[j].slot, l[j].room, l[j].papers ++ [x], a2, c2⟩, SesN (k + 1) s) ∧ parseTo L (k + 1) = some ((l.set j ⟨l[j].slot, l[j].room, l[j].papers ++ [x], a2, c2⟩).map keyOf3)) := fun a2 c2 => by
          refine ⟨List.length_set .., fun s hs => ?_, ?_⟩
          ·
           rcases List.mem_or_eq_of_mem_set hs with h | rfl
           ·
            exact (hsn s h).mono (by omega)
           ·
            obtain ⟨q1, q2, q3, q4⟩ := hyn
            refine ⟨q1, q2, by show (l[j].papers ++ [x]).length ≤ _; rw [List.length_append]; show _ + 1 ≤ _; omega, fun y hy => ?_⟩
            rcases List.mem_append.1 hy with h | h
            ·
             exact q4 y h
            ·
             rw [List.mem_singleton.1 h]; omega
          ·
           rw [Hpr.out, addPap_setJ hj x none 0, addPap_setJ hj x a2 c2]
         have Hll := Lib.hid hll
         have Hgl := Lib.hid hgl
         have Hyl := Lib.hid hyl
         clear HS1 HS0 HK HBd HST hsaS hpw hpwA hyo hya hyn hsn hll hgl hyl Hpr hxs hj
         go_wp2_with fail
         refine HCP.out.mono ?_
         rintro e w9 ⟨rfl, rfl⟩
         go_wp2_with fail
         refine HH.out.mono ?_
         rintro e w9 ⟨rfl, rfl⟩
         go_wp2_with (at_builtin; refine wpList_append_lie (α := ByteArray) rfl _ _ 57 rfl 9 16 (.string ⟨#[]⟩) Tryz.underlying57 Tryz.infoString rfl l[j].pv l[j].papers rfl hyoA x _ rfl (Box.new _ _ _) (by omega) (by omega) (by simp; omega) ?_; intro g9 cap9 w9 hown9 hg9 hat9; have hk9 : Kp (fun q => l[j].pv.ownBlock = some q) (wr.alloc (.cells #[.string x] 9)) w9 := (Kp.refl (fun q => l[j].pv.ownBlock = some q) (wr.alloc (.cells #[.string x] 9))).grown hg9 (fun q hq => .inl hq); have hfr := (hbx.kp hk9 hgn).frozen (j * 3 + 2); have hcc := cellKp hk9 hgn c2A)
         have hpw9 := HPP.out w9 (some ⟨g9, 0, none⟩) cap9 (.slice (some ⟨g9, 0, none⟩) (l[j].papers.length + 1) cap9) (by rw [List.length_append]; rfl) hk9 hown9 (atNew hat9)
         have hbk := below_kp hbA hk9 (fun q hq => (Hyl.out q hq).1) (by simp; omega)
         have hbF := hbk.setCell (p := ⟨gg, j * 3 + 2, none⟩) (Hgl.out.1) (.slice (some ⟨g9, 0, none⟩) (l[j].papers.length + 1) cap9)
         obtain ⟨q1, q2, q3⟩ := Hlk.out (some ⟨g9, 0, none⟩) cap9
         have Q3 := Lib.hid q3
         have Q1 := Lib.hid q1
         clear hk9 hown9 hg9 hat9 hfr hcc hbk hbA hyoA hbx c2 c2A HPP Hlk q3 q1 c0
         (try go_wp2_with fail)
         rw [← Hla.out]
         go_roundg (n - (k + 1))
         case measure => have := hgk.out; omega
         case rel => exact ⟨k + 1, _, _, by go_num, rfl, by omega, rfl, ⟨hpw9, by rw [Q1.out]; have := Hll.out; omega, q2⟩, Q3.out, hbF⟩
        ·
         have hl1 : decide ((0 : Int) < (l.length : Int)) = false := decide_eq_false (by omega)
         have h1 := HBd.out (HS0.out (by rw [HK.out, decide_eq_false hx0, decide_eq_false hl0]; rfl))
         obtain ⟨pa, pc, rfl, -, -, -⟩ := hA.1.own.form
         have H1 := Lib.hid h1
         have hl0' : ¬ 0 < l.length := hl0
         clear hx0 h1 HS1 HS0 HK HBd HST
         go_wp2_with fail
         refine HCP.out.mono ?_
         rintro e w9 ⟨rfl, rfl⟩
         go_wp2_with fail
         refine HH.out.mono ?_
         rintro e w9 ⟨rfl, rfl⟩
         go_wp2_with fail
         refine bodyPost_ret (v := .tuple #[.slice none 0 0, .int .i64 (k : Nat), .int .i64 9]) (by simp only [results, Tryz.results11]; go_simp) rfl ?_
         exact rd_bad (below_next Hb4.out hb) (H1.out)
       ·
        rw [hh] at HH HK
        have h1 := HBd.out (HS0.out (by rw [HK.out, decide_eq_false hx0]; rfl))
        have H1 := Lib.hid h1
        clear hx0 h1 HS1 HS0 HK HBd HST
        go_wp2_with fail
        refine HCP.out.mono ?_
        rintro e w9 ⟨rfl, rfl⟩
        go_wp2_with fail
        refine HH.out.mono ?_
        rintro e w9 ⟨rfl, rfl⟩
        go_wp2_with fail
        refine bodyPost_ret (v := .tuple #[.slice none 0 0, .int .i64 (k : Nat), .int .i64 9]) (by simp only [results, Tryz.results11]; go_simp) rfl ?_
        exact rd_bad (below_next Hb4.out hb) (H1.out)
    ·
     obtain rfl : k = n := by omega
     obtain ⟨hpw, hll, hsn⟩ := hA
     obtain ⟨pa, pc, rfl, hprg, -, hcap⟩ := hpw.prg
     have hbw := below_next Hb4.out hb
     have hXr := hX3.below hb
     have hok : ∀ s ∈ l, SesOk s := fun s hs => by
      obtain ⟨q1, q2, q3, q4⟩ := hsn s hs
      exact ⟨q1, q2, by omega, q4⟩
     have HFL := Lib.hid (fun fb br bs bt bb W (hF : FieldAt g fb br bs bt bb W) (h : Below wr.heap.size wr W) => faultP_any g fb br bs bt bb l pa pc W hF (HG.out _ (below_next hbw h)) HZ.out hn (hprg.below h) (by omega) hok hcap)
     have HPG := Lib.hid (fun W (h : Below wr.heap.size wr W) => hprg.below h)
     have HE4 : Hid (progFault g l = 0 → RdCase text (faultC g) 0 0 (l.map keyOf3)) := fun h => HC4.out _ hpr.out Hen.out (by rw [faultC_of g rfl]; exact h)
     have HE3 : Hid (progFault g l ≠ 0 → RdCase text (faultC g) (progFault g l) 0 []) := fun h => by
      have := HC3.out _ hpr.out Hen.out (by rw [faultC_of g rfl]; exact h)
      rw [faultC_of g rfl] at this
      exact this
     have Hpl : Hid (l.length ≤ 200000 ∧ ∀ s ∈ l, s.papers.length ≤ 200000) := ⟨by omega, fun s hs => by have := (hsn s hs).2.2.1; omega⟩
     generalize progFault g l = pf at *
     clear hpw hsn hok hprg hb HC2 HC3 HC4 HBAD HL hpr hlc HEM3 HG HN
     have hXr_l := hXr.lt; have hXr_0 := hXr.cell 0; have hXr_1 := hXr.cell 1; have hXr_2 := hXr.cell 2; have hXr_3 := hXr.cell 3; have hXr_4 := hXr.cell 4; simp at hXr_0 hXr_1 hXr_2 hXr_3 hXr_4
     go_wp2_with fail
     clear hXr_l hXr_0 hXr_1 hXr_2 hXr_3 hXr_4
     clear hXr
     refine (HF.out _ hbw).mono ?_
     rintro e wF ⟨fb, br, bs, bt, bb, rfl, hFd, hfb, hbF⟩
     have hbwF := below_next hbw hbF
     go_wp2_with fail
     refine (HFL.out _ _ _ _ _ _ hFd hbF).mono ?_
     rintro e wG ⟨rfl, hbG⟩
     have hbwG := below_next hbwF hbG
     have hpg := HPG.out _ (below_next hbF hbG)
     by_cases q2 : pf = 0
     ·
      subst q2
      have hc := HE4.out rfl
      clear HE3 HE4 HFL HF hFd hbF hbG
      go_wp2_with fail
      refine bodyPost_ret (v := .tuple #[.slice pa l.length pc, .int .i64 0, .int .i64 0]) (by simp only [results, Tryz.results11]; go_simp) rfl ?_
      exact ⟨hbwG, 0, 0, _, l, pa, pc, hc, rfl, hpg, rfl, Hpl.out.1, Hpl.out.2⟩
     ·
      have hc := HE3.out q2
      have hq : (pf != 0) = true := by simpa using q2
      clear HE3 HE4 HFL HF hFd hbF hbG q2
      go_wp2_with fail
      refine bodyPost_ret (v := .tuple #[.slice none 0 0, .int .i64 0, .int .i64 pf]) (by simp only [results, Tryz.results11]; go_simp) rfl ?_
      exact rd_bad hbwG hc
  ·
   rw [if_neg hen] at hlc ⊢
   rw [decide_eq_false hen]
   have Hen := Lib.hid hen
   clear hen
   have hwn : IntKind.i64.wrap (((n + 1 : Nat) : Int) - 1) = (n : Int) := by rw [IntWalk.i64_in _ (by omega)]; omega
   go_wp2_with fail
   go_loopg [34, 10] (n + 1) (fun gk iv ov wr => ∃ (k : Nat) (v : Value) (l : List Ses), iv = .int .i64 k ∧ v = ov ∧ k ≤ n ∧ Hid (gk = n + 1 - k) ∧ RdAt w3.heap.size k l v wr ∧ Hid (parseTo L k = some (l.map keyOf3)) ∧ Below w3.heap.size w3 wr)
   case atStart => exact ⟨0, _, [], rfl, rfl, by omega, rfl, ⟨PW.nil _ _, Nat.le_refl _, fun s hs => by cases hs⟩, rfl, Below.refl _ _⟩
   case round =>
    obtain ⟨k, v, l, rfl, rfl, hk, hgk, hA, hpr, hb⟩ := hrel
    by_cases hkn : k < n
    ·
     have hdk : decide ((k : Int) < (n : Int)) = true := decide_eq_true (by omega)
     obtain ⟨gb, go, hla, s, hs, hss, hcl⟩ := HL.out k (by omega)
     have c0 := hcl _ hb
     have Hla := Lib.hid hla
     have HBd := Lib.hid (HBAD.out k _ hkn hpr.out)
     rw [hs] at HBd
     have HST : Hid (∀ o', stepP (l.map keyOf3) s = some o' → parseTo L (k + 1) = some o') := fun o' h => parse_some hpr.out (by rw [hs]; exact h)
     rw [hla]
     clear hla hs hcl
     have HCP := Lib.hid (cut2_any s wr)
     have hxs := rest2_size s
     cases hp2 : pre2 s
     ·
      have HS1 : Hid (okWords (cutB 32 s) = true → stepP (l.map keyOf3) s = some (l.map keyOf3 ++ [((cutB 32 s).getD 1 ⟨#[]⟩, (cutB 32 s).getD 2 ⟨#[]⟩, [])])) := fun h => step_ses hp2 h
      have HS0 : Hid (okWords (cutB 32 s) = false → stepP (l.map keyOf3) s = none) := fun h => step_badSes hp2 h
      rw [hp2] at HCP
      have hlW := cutC_len 32 s
      have hzW := cutC_sizes 32 s
      have HWD := Lib.hid (wordsK_any s wr (HEM3.out _ hb) (by omega))
      have HK : Hid (okWords (cutB 32 s) = (!(cutB 32 s).any (fun y => decide (y = ⟨#[]⟩)) && (decide ((cutB 32 s).length = 3) && decide ((cutB 32 s).getD 0 ⟨#[]⟩ = sesW)))) := rfl
      clear hp2
      generalize cutB 32 s = W at *
      generalize rest2 s = xr at *
      cases ha : W.any (fun y => decide (y = ⟨#[]⟩))
      ·
       rw [ha] at HWD HK
       by_cases h3 : W.length = 3
       ·
        obtain ⟨a, b, c, rfl⟩ : ∃ a b c, W = [a, b, c] := by
         match W, h3 with
         | [a, b, c], _ => exact ⟨a, b, c, rfl⟩
        have hzb : b.size ≤ 1000 := by have := hzW b (by simp); omega
        have hzc : c.size ≤ 1000 := by have := hzW c (by simp); omega
        clear h3 ha hzW hlW
        by_cases hs7 : a = sesW
        ·
         subst hs7
         have Hpr := Lib.hid (HST.out _ (HS1.out (by rw [HK.out]; simp)))
         clear HS1 HS0 HK HBd HST hxs
         go_wp2_with fail
         refine HCP.out.mono ?_
         rintro e w9 ⟨rfl, rfl⟩
         go_wp2_with fail
         refine HWD.out.mono ?_
         rintro e w9 ⟨wa, wc, rfl, hsw, hwl, hb9⟩
         obtain ⟨wb, wo, hwa, f0⟩ := hsw.str (i := 0) (by simp)
         subst hwa
         have f0 : w9.cell? ⟨wb, wo, none⟩ = some (.string ⟨#[115, 101, 115, 115, 105, 111, 110]⟩) := f0
         have f1 : w9.cell? ⟨wb, wo + 1, none⟩ = some (.string b) := by obtain ⟨wb2, wo2, h, f⟩ := hsw.str (i := 1) (by simp); cases h; exact f
         have f2 : w9.cell? ⟨wb, wo + 2, none⟩ = some (.string c) := by obtain ⟨wb2, wo2, h, f⟩ := hsw.str (i := 2) (by simp); cases h; exact f
         obtain ⟨hpw, hll, hsn⟩ := hA
         have hpwB := hpw.below hb9
         have hbB := below_next hb hb9
         have hol := hpwB.own.lt
         have hzB := hbB.size
         have HLN : Hid (∀ W, Below w9.heap.size w9 W → W.cell? ⟨wb, wo + 1, none⟩ = some (.string b) ∧ W.cell? ⟨wb, wo + 2, none⟩ = some (.string c)) := fun W h => ⟨cell_later h f1, cell_later h f2⟩
         have hsN : Hid (∀ s ∈ l ++ [(⟨b, c, [], none, 0⟩ : Ses)], SesN (k + 1) s) := fun s hs => by
          rcases List.mem_append.1 hs with h1 | h1
          ·
           exact (hsn s h1).mono (by omega)
          ·
           rw [List.mem_singleton] at h1
           subst h1
           exact ⟨hzb, hzc, Nat.zero_le _, fun x hx => by cases hx⟩
         have Hpr2 : Hid (parseTo L (k + 1) = some ((l ++ [(⟨b, c, [], none, 0⟩ : Ses)]).map keyOf3)) := by
          show _ = _
          rw [Hpr.out, List.map_append]; rfl
         have hpwC := hpwB.alloc (.cells #[.string b, .string c, .slice none 0 0] 67)
         have hownC := hpwC.own.drew
         have hpwD := hpwC.below (Below.refl _ _).drew
         have hnw : ¬ v.ownBlock = some wb := fun e => by have := (hpw.own.lt wb e).2; have := hwl _ rfl; simp at this; omega
         clear hpw hsn hb hb9 Hpr HLN hsw
         go_upto_region 20 with (fail)
         clear f0
         refine wp_region_held_drew (S := (fun wq => wq.cell? ⟨wb, wo + 1, none⟩ = some (.string b) ∧ wq.cell? ⟨wb, wo + 2, none⟩ = some (.string c))) (by kernel_rfl) ?hS (fun hHeld => ?_)
         case hS => exact ⟨f1, f2⟩
         refine rt 0 (some 106) ?_
         refine rt 1 (some 107) ?_
         refine rt 2 (some 108) ?_
         refine rt 3 (some 109) ?_
         refine rt 4 (some 110) ?_
         refine rt 5 (some 111) ?_
         refine rt 6 (some 112) ?_
         refine rt 7 (some 113) ?_
         refine rcall (i := 8) (d := (some 114)) (by kernel_rfl) rfl (by kernel_rfl) (fun K hK => ?_)
         go_simp
         skip
         refine hK.out _ _ ?hS (fun hHeld => ?_)
         case hS => exact (have hA := (Below.refl w9.heap.size w9).drew.alloc (by show w9.heap.size ≤ _; exact Nat.le_refl _) (.cells #[.string b, .string c, .slice none 0 0] 67); ⟨cell_later hA f1, cell_later hA f2⟩)
         clear hK K
         simp only [Act.put, lsetA, lsetZ, lsetS]
         refine rcall (i := 9) (d := (some 115)) (by kernel_rfl) rfl (by kernel_rfl) (fun K hK => ?_)
         refine step_append_lie (α := Ses) (by rfl) _ _ 34 (by rfl) 67 56 (.agg #[.string ⟨#[]⟩, .string ⟨#[]⟩, .slice none 0 0]) Tryz.underlying34 infoSesA (by rfl) v l (by rfl) hownC (⟨b, c, [], none, 0⟩ : Ses) w9.heap.size (by rfl) (Box.drew (Box.new w9 67 #[.string b, .string c, .slice none 0 0])) (by omega) (by omega) (by simp; omega) ?_; intro g9 cap9 wX hown9 hg9 hat9; have hk9 : Kp (fun q => v.ownBlock = some q) w9 wX := (((Kp.refl (fun q => v.ownBlock = some q) w9).alloc (.cells #[.string b, .string c, .slice none 0 0] 67)).drew).grown hg9 (fun q hq => .inl hq)
         refine hK.out _ _ ?hS (fun hHeld => ?_)
         case hS => exact ⟨cellKp hk9 hnw f1, cellKp hk9 hnw f2⟩
         clear hK K
         simp only [Act.put, lsetA, lsetZ, lsetS]
         refine rt 10 (some 10) ?_
         refine wpAnyH_done (by kernel_rfl) ?_ _
         have hpwE := hpwD.snoc (x := (⟨b, c, [], none, 0⟩ : Ses)) (Own.nil _ _ _) (fun j hj e => by cases e) (fun y hy j hj e => by cases e) hg9 hown9 (atNew hat9)
         have hbE := below_kp hbB hk9 (fun q hq => (hol q hq).1) (by omega)
         have HLE : Hid ((l ++ [(⟨b, c, [], none, 0⟩ : Ses)]).length = l.length + 1) := by show _ = _; rw [List.length_append]; rfl
         clear hHeld hk9 hg9 hown9 hat9 hpwD hpwC hownC hbB f1 f2 hol
         go_wp2_with fail
         rw [← Hla.out]
         go_roundg ((n + 1) - (k + 1))
         case measure => have := hgk.out; omega
         case rel => exact ⟨k + 1, _, _, by go_num, rfl, by omega, rfl, ⟨hpwE, by rw [HLE.out]; omega, hsN.out⟩, Hpr2.out, hbE⟩
        ·
         have h1 := HBd.out (HS0.out (by rw [HK.out]; simp [hs7]))
         have H1 := Lib.hid h1
         have Hs7 := Lib.hid hs7
         clear h1 HS1 HS0 HK HBd HST hxs hs7
         go_wp2_with fail
         refine HCP.out.mono ?_
         rintro e w9 ⟨rfl, rfl⟩
         go_wp2_with fail
         refine HWD.out.mono ?_
         rintro e w9 ⟨wa, wc, rfl, hsw, hwl, hb9⟩
         obtain ⟨wb, wo, hwa, f0⟩ := hsw.str (i := 0) (by simp)
         subst hwa
         have f0 : w9.cell? ⟨wb, wo, none⟩ = some (.string a) := f0
         replace hb := below_next hb hb9
         have e1 : ¬ a = ⟨#[115, 101, 115, 115, 105, 111, 110]⟩ := Hs7.out
         have e2 : (a.toList == [115, 101, 115, 115, 105, 111, 110]) = false := by rw [beq_eq_false_iff_ne]; intro e; exact e1 (toList_inj.1 (by rw [e, ByteArray.toList_eq]))
         go_wp2_with fail
         refine bodyPost_ret (v := .tuple #[.slice none 0 0, .int .i64 (k : Nat), .int .i64 9]) (by simp only [results, Tryz.results11]; go_simp) rfl ?_
         exact rd_bad (below_next Hb4.out hb) (H1.out)
       ·
        have h1 := HBd.out (HS0.out (by rw [HK.out, decide_eq_false h3]; rfl))
        have hd3 : ((W.length : Int) == 3) = false := by rw [beq_eq_false_iff_ne]; omega
        have H1 := Lib.hid h1
        clear h1 HS1 HS0 HK HBd HST hxs h3 ha hzW hlW
        go_wp2_with fail
        refine HCP.out.mono ?_
        rintro e w9 ⟨rfl, rfl⟩
        go_wp2_with fail
        refine HWD.out.mono ?_
        rintro e w9 ⟨wa, wc, rfl, hsw, hwl, hb9⟩
        replace hb := below_next hb hb9
        go_wp2_with fail
        refine bodyPost_ret (v := .tuple #[.slice none 0 0, .int .i64 (k : Nat), .int .i64 9]) (by simp only [results, Tryz.results11]; go_simp) rfl ?_
        exact rd_bad (below_next Hb4.out hb) (H1.out)
      ·
       rw [ha] at HWD HK
       have h1 := HBd.out (HS0.out (by rw [HK.out]; rfl))
       have H1 := Lib.hid h1
       clear h1 HS1 HS0 HK HBd HST hxs ha hzW hlW
       go_wp2_with fail
       refine HCP.out.mono ?_
       rintro e w9 ⟨rfl, rfl⟩
       go_wp2_with fail
       refine HWD.out.mono ?_
       rintro e w9 ⟨wa, wc, rfl, hsw, hwl, hb9⟩
       replace hb := below_next hb hb9
       go_wp2_with fail
       refine bodyPost_ret (v := .tuple #[.slice none 0 0, .int .i64 (k : Nat), .int .i64 9]) (by simp only [results, Tryz.results11]; go_simp) rfl ?_
       exact rd_bad (below_next Hb4.out hb) (H1.out)
     ·
      have HS1 : Hid (okPap (l.map keyOf3) (rest2 s) = true → stepP (l.map keyOf3) s = some (addPap (l.map keyOf3) (rest2 s))) := fun h => step_pap hp2 h
      have HS0 : Hid (okPap (l.map keyOf3) (rest2 s) = false → stepP (l.map keyOf3) s = none) := fun h => step_badPap hp2 h
      rw [hp2] at HCP
      have HK : Hid (okPap (l.map keyOf3) (rest2 s) = (!decide ((rest2 s).size = 0) && (!has32 (rest2 s) && decide (0 < l.length)))) := by unfold okPap; rw [List.length_map]; rfl
      clear hp2
      generalize rest2 s = x at *
      have HH := Lib.hid (has32_any x wr)
      by_cases hx0 : x.size = 0
      ·
       have h1 := HBd.out (HS0.out (by rw [HK.out, decide_eq_true hx0]; rfl))
       obtain rfl : x = ⟨#[]⟩ := by
        obtain ⟨d⟩ := x
        have : d.size = 0 := hx0
        rw [Array.eq_empty_of_size_eq_zero this]
       have H1 := Lib.hid h1
       clear hx0 h1 HS1 HS0 HK HBd HST
       go_wp2_with fail
       refine HCP.out.mono ?_
       rintro e w9 ⟨rfl, rfl⟩
       go_wp2_with fail
       refine bodyPost_ret (v := .tuple #[.slice none 0 0, .int .i64 (k : Nat), .int .i64 9]) (by simp only [results, Tryz.results11]; go_simp) rfl ?_
       exact rd_bad (below_next Hb4.out hb) (H1.out)
      ·
       have e1 := tlN hx0
       have e2 : x.toList.isEmpty = false := by simpa using e1
       cases hh : has32 x
       ·
        rw [hh] at HH HK
        by_cases hl0 : 0 < l.length
        ·
         have Hpr := Lib.hid (HST.out _ (HS1.out (by rw [HK.out, decide_eq_false hx0, decide_eq_true hl0]; rfl)))
         have hd0 : decide ((0 : Int) < (l.length : Int)) = true := decide_eq_true (by omega)
         obtain ⟨hpw, hll, hsn⟩ := hA
         obtain ⟨pa, pc, rfl, hsaS, -, -⟩ := hpw.own.form
         obtain ⟨gg, rfl⟩ := PW.addr hpw hl0
         obtain ⟨j, hj⟩ : ∃ j, l.length = j + 1 := ⟨l.length - 1, by omega⟩
         have hjl : j < l.length := by omega
         rw [← addPap_setJ hj x none 0] at Hpr
         have hw : IntKind.i64.wrap ((l.length : Int) - 1) = (j : Int) := by rw [IntWalk.i64_in _ (by omega)]; omega
         have hj0 : (0 : Int) ≤ (j : Int) := by omega
         have hj2 : (j : Int) < (l.length : Int) := by omega
         obtain ⟨mb, moff, ha', -, -, c2⟩ := hsaS.sesC hjl
         cases ha'
         rw [Nat.zero_add] at c2
         have hyo := hpw.inn _ (List.getElem_mem hjl)
         have hya := hpw.apt _ (List.getElem_mem hjl)
         have hyn := hsn _ (List.getElem_mem hjl)
         have hyl := hyo.lt
         have hgl := hpw.own.lt gg rfl
         have hpwA := hpw.alloc (.cells #[.string x] 9)
         have hyoA := hyo.alloc (.cells #[.string x] 9)
         have hbA := hb.alloc hb.size (.cells #[.string x] 9)
         have HPP := Lib.hid (fun (w1 : World) (a2 : Option Addr) (c2 : Nat) (v2 : Value) (hv2 : v2 = .slice a2 (l[j].papers ++ [x]).length c2) (hkp : Kp (fun q => l[j].pv.ownBlock = some q) (wr.alloc (.cells #[.string x] 9)) w1) (h2 : Own w3.heap.size 9 w1 v2 (l[j].papers ++ [x])) (hat : ∀ q, v2.ownBlock = some q → l[j].pv.ownBlock = some q ∨ (wr.alloc (.cells #[.string x] 9)).heap.size ≤ q) => PW.papers hpwA hjl hv2 hkp h2 hat)
         have hgn : ¬ (l[j].pv.ownBlock = some gg) := fun e => hya gg rfl e
         have c2A := cell_later ((Below.refl wr.heap.size wr).alloc (Nat.le_refl _) (.cells #[.string x] 9)) c2
         obtain ⟨cr, hbx⟩ := hpwA.own.box
         have hpl := hyn.2.2.1
         have hzr := hb.size
         have Hlk : Hid (∀ (a2 : Option Addr) (c2 : Nat), (l.set j ⟨l[j].slot, l[j].room, l[j].papers ++ [x], a2, c2⟩).length = l.length ∧ (∀ s ∈ l.set j ⟨l[j].slot, l[j].room, l[j].papers ++ [x], a2, c2⟩, SesN (k + 1) s) ∧ parseTo L (k + 1) = some ((l.set j ⟨l[j].slot, l[j].room, l[j].papers ++ [x], a2, c2⟩).map keyOf3)) := fun a2 c2 => by
          refine ⟨List.length_set .., fun s hs => ?_, ?_⟩
          ·
           rcases List.mem_or_eq_of_mem_set hs with h | rfl
           ·
            exact (hsn s h).mono (by omega)
           ·
            obtain ⟨q1, q2, q3, q4⟩ := hyn
            refine ⟨q1, q2, by show (l[j].papers ++ [x]).length ≤ _; rw [List.length_append]; show _ + 1 ≤ _; omega, fun y hy => ?_⟩
            rcases List.mem_append.1 hy with h | h
            ·
             exact q4 y h
            ·
             rw [List.mem_singleton.1 h]; omega
          ·
           rw [Hpr.out, addPap_setJ hj x none 0, addPap_setJ hj x a2 c2]
         have Hll := Lib.hid hll
         have Hgl := Lib.hid hgl
         have Hyl := Lib.hid hyl
         clear HS1 HS0 HK HBd HST hsaS hpw hpwA hyo hya hyn hsn hll hgl hyl Hpr hxs hj
         go_wp2_with fail
         refine HCP.out.mono ?_
         rintro e w9 ⟨rfl, rfl⟩
         go_wp2_with fail
         refine HH.out.mono ?_
         rintro e w9 ⟨rfl, rfl⟩
         go_wp2_with (at_builtin; refine wpList_append_lie (α := ByteArray) rfl _ _ 57 rfl 9 16 (.string ⟨#[]⟩) Tryz.underlying57 Tryz.infoString rfl l[j].pv l[j].papers rfl hyoA x _ rfl (Box.new _ _ _) (by omega) (by omega) (by simp; omega) ?_; intro g9 cap9 w9 hown9 hg9 hat9; have hk9 : Kp (fun q => l[j].pv.ownBlock = some q) (wr.alloc (.cells #[.string x] 9)) w9 := (Kp.refl (fun q => l[j].pv.ownBlock = some q) (wr.alloc (.cells #[.string x] 9))).grown hg9 (fun q hq => .inl hq); have hfr := (hbx.kp hk9 hgn).frozen (j * 3 + 2); have hcc := cellKp hk9 hgn c2A)
         have hpw9 := HPP.out w9 (some ⟨g9, 0, none⟩) cap9 (.slice (some ⟨g9, 0, none⟩) (l[j].papers.length + 1) cap9) (by rw [List.length_append]; rfl) hk9 hown9 (atNew hat9)
         have hbk := below_kp hbA hk9 (fun q hq => (Hyl.out q hq).1) (by simp; omega)
         have hbF := hbk.setCell (p := ⟨gg, j * 3 + 2, none⟩) (Hgl.out.1) (.slice (some ⟨g9, 0, none⟩) (l[j].papers.length + 1) cap9)
         obtain ⟨q1, q2, q3⟩ := Hlk.out (some ⟨g9, 0, none⟩) cap9
         have Q3 := Lib.hid q3
         have Q1 := Lib.hid q1
         clear hk9 hown9 hg9 hat9 hfr hcc hbk hbA hyoA hbx c2 c2A HPP Hlk q3 q1 c0
         (try go_wp2_with fail)
         rw [← Hla.out]
         go_roundg ((n + 1) - (k + 1))
         case measure => have := hgk.out; omega
         case rel => exact ⟨k + 1, _, _, by go_num, rfl, by omega, rfl, ⟨hpw9, by rw [Q1.out]; have := Hll.out; omega, q2⟩, Q3.out, hbF⟩
        ·
         have hl1 : decide ((0 : Int) < (l.length : Int)) = false := decide_eq_false (by omega)
         have h1 := HBd.out (HS0.out (by rw [HK.out, decide_eq_false hx0, decide_eq_false hl0]; rfl))
         obtain ⟨pa, pc, rfl, -, -, -⟩ := hA.1.own.form
         have H1 := Lib.hid h1
         have hl0' : ¬ 0 < l.length := hl0
         clear hx0 h1 HS1 HS0 HK HBd HST
         go_wp2_with fail
         refine HCP.out.mono ?_
         rintro e w9 ⟨rfl, rfl⟩
         go_wp2_with fail
         refine HH.out.mono ?_
         rintro e w9 ⟨rfl, rfl⟩
         go_wp2_with fail
         refine bodyPost_ret (v := .tuple #[.slice none 0 0, .int .i64 (k : Nat), .int .i64 9]) (by simp only [results, Tryz.results11]; go_simp) rfl ?_
         exact rd_bad (below_next Hb4.out hb) (H1.out)
       ·
        rw [hh] at HH HK
        have h1 := HBd.out (HS0.out (by rw [HK.out, decide_eq_false hx0]; rfl))
        have H1 := Lib.hid h1
        clear hx0 h1 HS1 HS0 HK HBd HST
        go_wp2_with fail
        refine HCP.out.mono ?_
        rintro e w9 ⟨rfl, rfl⟩
        go_wp2_with fail
        refine HH.out.mono ?_
        rintro e w9 ⟨rfl, rfl⟩
        go_wp2_with fail
        refine bodyPost_ret (v := .tuple #[.slice none 0 0, .int .i64 (k : Nat), .int .i64 9]) (by simp only [results, Tryz.results11]; go_simp) rfl ?_
        exact rd_bad (below_next Hb4.out hb) (H1.out)
    ·
     obtain rfl : k = n := by omega
     have H1 := Lib.hid (HC2.out _ hpr.out Hen.out)
     obtain ⟨gb, go, hla, s, hs, hss, hcl⟩ := HL.out k (by omega)
     have c0 := hcl _ hb
     have Hla := Lib.hid hla
     rw [hla]
     clear hla hs hcl
     have HCP := Lib.hid (cut2_any s wr)
     have HWD := Lib.hid (wordsK_any s wr (HEM3.out _ hb) (by omega))
     have hdk : decide ((k : Int) < (k : Int)) = false := decide_eq_false (by omega)
     generalize rest2 s = xr at *
     cases hp2 : pre2 s
     ·
      rw [hp2] at HCP
      clear hp2
      go_wp2_with fail
      refine HCP.out.mono ?_
      rintro e w9 ⟨rfl, rfl⟩
      go_wp2_with fail
      refine HWD.out.mono ?_
      rintro e w9 ⟨wa, wc, rfl, hsw, hwl, hb9⟩
      replace hb := below_next hb hb9
      go_wp2_with fail
      refine bodyPost_ret (v := .tuple #[.slice none 0 0, .int .i64 (k : Nat), .int .i64 9]) (by simp only [results, Tryz.results11]; go_simp) rfl ?_
      exact rd_bad (below_next Hb4.out hb) (H1.out)
     ·
      rw [hp2] at HCP
      clear hp2
      go_wp2_with fail
      refine HCP.out.mono ?_
      rintro e w9 ⟨rfl, rfl⟩
      go_wp2_with fail
      refine bodyPost_ret (v := .tuple #[.slice none 0 0, .int .i64 (k : Nat), .int .i64 9]) (by simp only [results, Tryz.results11]; go_simp) rfl ?_
      exact rd_bad (below_next Hb4.out hb) (H1.out)
 ·
  have hq : (gf != 0) = true := by simpa using q1
  have Hq1 := Lib.hid q1
  clear q1
  go_wp2_with fail
  refine bodyPost_ret (v := .tuple #[.slice none 0 0, .int .i64 0, .int .i64 gf]) (by simp only [results, Tryz.results11]; go_simp) rfl ?_
  exact .inl ⟨Hq1.out, hb1, rfl⟩
end Go.Proofs.YtldgphhiajhfhaaGreatDoor
namespace Go.Proofs.YtldgphhiajhfhaaGreatDoor
open Go.RowKit
set_option linter.unusedVariables false
set_option linter.unusedSimpArgs false
theorem emptyB {x : ByteArray} (h : x.size = 0) : x = ⟨#[]⟩ := by
 obtain ⟨d⟩ := x
 have : d.size = 0 := h
 rw [Array.eq_empty_of_size_eq_zero this]
theorem emptyB_iff (x : ByteArray) : (x = ⟨#[]⟩) ↔ x.size = 0 := ⟨fun h => by rw [h]; rfl, emptyB⟩
theorem okW_good {b c : ByteArray} (hb : ¬ b.size = 0) (hc : ¬ c.size = 0) : okWords [sesW, b, c] = true := by
 have h1 : ¬ b = ⟨#[]⟩ := fun e => hb (by rw [e]; rfl)
 have h2 : ¬ c = ⟨#[]⟩ := fun e => hc (by rw [e]; rfl)
 have h0 : ¬ sesW = ⟨#[]⟩ := fun e => absurd (congrArg ByteArray.size e) (by decide)
 have e : [sesW, b, c].any (fun y => decide (y = ⟨#[]⟩)) = false := by
  rw [List.any_cons, List.any_cons, List.any_cons, List.any_nil, decide_eq_false h0, decide_eq_false h1, decide_eq_false h2]; rfl
 unfold okWords
 rw [e, decide_eq_true (show [sesW, b, c].length = 3 from rfl), decide_eq_true (show [sesW, b, c].getD 0 ⟨#[]⟩ = sesW from rfl)]
 rfl
set_option maxRecDepth 100000 in
set_option maxHeartbeats 8000000 in
theorem progFrom_any (g : Grd) (text : ByteArray) (w : World) (hg : GRd w g) (hz : GSm g) (hE : EnvM w) (ht : text.size ≤ 1000) :
  Calls Tryz.prog 14 #[g.agg, .string text] w (RdRes g text w) := by
 have HG := Lib.hid (fun W (h : Below w.heap.size w W) => hg.below h)
 have HLN := Lib.hid (fun W (h : Below w.heap.size w W) => splitM_any 10 text W (hE.below h) (by omega))
 have HEM := Lib.hid (fun W (h : Below w.heap.size w W) => hE.below h)
 have HZ := Lib.hid hz
 rw [Grd.agg_eq]
 have hX := Box.new w 32 #[.slice g.ra g.rooms.length g.rc, .slice g.sa g.slots.length g.sc, .slice g.ta g.talks.length g.tc, .slice g.wa g.wishes.length g.wc, .slice g.ba g.bans.length g.bc]
 have hb0 : Below w.heap.size w (w.alloc (.cells #[.slice g.ra g.rooms.length g.rc, .slice g.sa g.slots.length g.sc, .slice g.ta g.talks.length g.tc, .slice g.wa g.wishes.length g.wc, .slice g.ba g.bans.length g.bc] 32)) := (Below.refl _ _).alloc (Nat.le_refl _) _
 have hd : decide ((200000 : Int) < (text.size : Int)) = false := decide_eq_false (by omega)
 clear hg hz hE
 go_enter Tryz.func14, Tryz.ntmps14
 go_upto_region 1 with (fail)
 generalize w.alloc (.cells #[.slice g.ra g.rooms.length g.rc, .slice g.sa g.slots.length g.sc, .slice g.ta g.talks.length g.tc, .slice g.wa g.wishes.length g.wc, .slice g.ba g.bans.length g.bc] 32) = w1 at *
 go_wp2_with fail
 refine (HLN.out _ hb0).mono ?_
 rintro e w3 ⟨lb, rfl, hown, hb3⟩
 have hsa : SA w3 (some ⟨lb, 0, none⟩) (cutB 10 text) := by
  obtain ⟨a', c', he, h, -, -⟩ := hown.form
  simp only [Value.slice.injEq] at he
  obtain ⟨rfl, -, -⟩ := he
  exact h
 clear hown
 have hX3 := hX.below hb3
 have hb4 := below_next hb0 hb3
 have hLp := cutC_pos 10 text
 have hLs := cutC_sizes 10 text
 have hLl := cutC_len 10 text
 have HC1 : Hid (∀ i o, i < (cutB 10 text).length - 1 → parseTo (cutB 10 text) i = some o → stepP o ((cutB 10 text).getD i ⟨#[]⟩) = none → RdCase text (faultC g) 9 (i : Nat) []) := fun i o hi h1 h2 => RdCase.bad i o (by omega) hi h1 h2
 have HC2 : Hid (∀ o, parseTo (cutB 10 text) ((cutB 10 text).length - 1) = some o → ¬ (lastB (cutB 10 text)).size = 0 → RdCase text (faultC g) 9 (((cutB 10 text).length - 1 : Nat) : Int) []) := fun o h1 h2 => RdCase.open_ o (by omega) h1 h2
 have HC3 : Hid (∀ o, parseTo (cutB 10 text) ((cutB 10 text).length - 1) = some o → (lastB (cutB 10 text)).size = 0 → faultC g o ≠ 0 → RdCase text (faultC g) (faultC g o) 0 []) := fun o h1 h2 h3 => RdCase.wrong o (by omega) h1 h2 h3
 have HC4 : Hid (∀ o, parseTo (cutB 10 text) ((cutB 10 text).length - 1) = some o → (lastB (cutB 10 text)).size = 0 → faultC g o = 0 → RdCase text (faultC g) 0 0 o) := fun o h1 h2 h3 => RdCase.fine o (by omega) h1 h2 h3
 generalize cutB 10 text = L at *
 obtain ⟨n, hn1⟩ : ∃ n, L.length = n + 1 := ⟨L.length - 1, by omega⟩
 have hn0 : L.length - 1 = n := by omega
 rw [hn0] at HC1 HC2 HC3 HC4
 rw [hn1]
 have HL : Hid (∀ i, i < n + 1 → ∃ b off, some (⟨lb, 0, none⟩ : Addr) = some ⟨b, off, none⟩ ∧ ∃ s, L.getD i ⟨#[]⟩ = s ∧ s.size ≤ 1000 ∧ ∀ W, Below w3.heap.size w3 W → W.cell? ⟨b, off + i, none⟩ = some (.string s)) := fun i hi => by
  have hil : i < L.length := by omega
  obtain ⟨b, off, ha, -⟩ := hsa.str hil
  refine ⟨b, off, ha, L[i], by rw [List.getD_eq_getElem?_getD, List.getElem?_eq_getElem hil]; rfl, by have := hLs _ (List.getElem_mem hil); omega, fun W hW => ?_⟩
  obtain ⟨b2, off2, ha2, c⟩ := (hsa.below hW).str hil
  rw [ha] at ha2
  cases ha2
  exact c
 have HLB : Hid (∀ W, Below w3.heap.size w3 W → W.cell? ⟨lb, n, none⟩ = some (.string (lastB L))) := fun W hW => by
  obtain ⟨b2, off2, ha2, s, hs, -, hc⟩ := HL.out n (by omega)
  cases ha2
  have := hc W hW
  rw [Nat.zero_add] at this
  rw [this, ← hs]
  unfold lastB
  rw [hn0]
 have HBAD := HC1
 have Hb4 := Lib.hid hb4
 have HEM3 : Hid (∀ W, Below w3.heap.size w3 W → EnvM W) := fun W h => HEM.out W (below_next hb4 h)
 have hn10 : n ≤ 1000 := by omega
 have hz3 := hb4.size
 have hwn : IntKind.i64.wrap (((n + 1 : Nat) : Int) - 1) = (n : Int) := by rw [IntWalk.i64_in _ (by omega)]; omega
 have hn0' : (0 : Int) ≤ (n : Int) := by omega
 have hn2' : (n : Int) < ((n + 1 : Nat) : Int) := by omega
 have hn3' : (n : Int) ≤ ((n + 1 : Nat) : Int) := by omega
 clear hsa hLp hLs hLl hn0 hn1 HC1 HLN HEM hb4 hb3 hb0 hX
 go_wp2_with fail
 go_loopg [27, 8] n (fun gk iv ov wr => ∃ (k : Nat) (v : Value) (l : List Ses), iv = .int .i64 k ∧ v = ov ∧ k ≤ n ∧ Hid (gk = n - k) ∧ RdAt w3.heap.size k l v wr ∧ Hid (parseTo L k = some (l.map keyOf3)) ∧ Below w3.heap.size w3 wr)
 case atStart => exact ⟨0, _, [], rfl, rfl, by omega, rfl, ⟨PW.nil _ _, Nat.le_refl _, fun s hs => by cases hs⟩, rfl, Below.refl _ _⟩
 case round =>
  obtain ⟨k, v, l, rfl, rfl, hk, hgk, hA, hpr, hb⟩ := hrel
  by_cases hkn : k < n
  ·
   obtain ⟨gb, go, hla, s, hs, hss, hcl⟩ := HL.out k (by omega)
   have c0 := hcl _ hb
   have Hla := Lib.hid hla
   have HBd := Lib.hid (HBAD.out k _ hkn hpr.out)
   rw [hs] at HBd
   have HST : Hid (∀ o', stepP (l.map keyOf3) s = some o' → parseTo L (k + 1) = some o') := fun o' h => parse_some hpr.out (by rw [hs]; exact h)
   rw [hla]
   clear hla hs hcl
   have HCP := Lib.hid (cut2_any s wr)
   have hxs := rest2_size s
   cases hp2 : pre2 s
   ·
    have HS1 : Hid (okWords (cutB 32 s) = true → stepP (l.map keyOf3) s = some (l.map keyOf3 ++ [((cutB 32 s).getD 1 ⟨#[]⟩, (cutB 32 s).getD 2 ⟨#[]⟩, [])])) := fun h => step_ses hp2 h
    have HS0 : Hid (okWords (cutB 32 s) = false → stepP (l.map keyOf3) s = none) := fun h => step_badSes hp2 h
    rw [hp2] at HCP
    have hlW := cutC_len 32 s
    have hzW := cutC_sizes 32 s
    have HSW := Lib.hid (splitM_any 32 s wr (HEM3.out _ hb) (by omega))
    have HK : Hid (okWords (cutB 32 s) = (!(cutB 32 s).any (fun y => decide (y = ⟨#[]⟩)) && (decide ((cutB 32 s).length = 3) && decide ((cutB 32 s).getD 0 ⟨#[]⟩ = sesW)))) := rfl
    clear hp2
    generalize cutB 32 s = W at *
    generalize rest2 s = xr at *
    by_cases h3 : W.length = 3
    ·
     obtain ⟨a, b, c, hW3⟩ : ∃ a b c, W = [a, b, c] := by
      match W, h3 with
      | [a, b, c], _ => exact ⟨a, b, c, rfl⟩
     have hzb : b.size ≤ 1000 := by have := hzW b (by rw [hW3]; simp); omega
     have hzc : c.size ≤ 1000 := by have := hzW c (by rw [hW3]; simp); omega
     have HW3 := Lib.hid hW3
     rw [hW3] at HS1 HK
     clear h3 hzW hlW hW3
     by_cases hs7 : a = sesW
     ·
      by_cases hb0 : b.size = 0
      ·
       have H1 := Lib.hid (HBd.out (HS0.out (by rw [HW3.out, HK.out]; simp [emptyB hb0])))
       obtain rfl := emptyB hb0
       subst hs7
       clear HS1 HS0 HK HBd HST hxs hb0
       go_wp2_with fail
       refine HCP.out.mono ?_
       rintro e w9 ⟨rfl, rfl⟩
       go_wp2_with fail
       refine HSW.out.mono ?_
       rintro e w9 ⟨wb, rfl, hown, hb9⟩
       have hsw : SA w9 (some ⟨wb, 0, none⟩) W := by
        obtain ⟨a', c', he, h, -, -⟩ := hown.form
        simp only [Value.slice.injEq] at he
        obtain ⟨rfl, -, -⟩ := he
        exact h
       have hwl : wr.heap.size ≤ wb := (hown.lt wb rfl).1
       clear hown
       have hcells : w9.cell? ⟨wb, 0, none⟩ = some (.string sesW) ∧ w9.cell? ⟨wb, 1, none⟩ = some (.string (⟨#[]⟩ : ByteArray)) ∧ w9.cell? ⟨wb, 2, none⟩ = some (.string c) := by
        have q : ∀ i (hi : i < W.length) x, W[i] = x → w9.cell? ⟨wb, i, none⟩ = some (.string x) := fun i hi x hx => by
         obtain ⟨wb2, wo2, h, f⟩ := hsw.str hi
         cases h
         rw [hx, Nat.zero_add] at f
         exact f
        rw [HW3.out] at q
        exact ⟨q 0 (by simp) _ rfl, q 1 (by simp) _ rfl, q 2 (by simp) _ rfl⟩
       obtain ⟨f0, f1, f2⟩ := hcells
       have hl3 := congrArg List.length HW3.out
       have hl3' : W.length = 3 := hl3
       rw [hl3']
       clear hl3 hl3' hsw
       replace f0 : w9.cell? ⟨wb, 0, none⟩ = some (.string ⟨#[115, 101, 115, 115, 105, 111, 110]⟩) := f0
       replace hb := below_next hb hb9
       go_wp2_with fail
       refine bodyPost_ret (v := .tuple #[.slice none 0 0, .int .i64 (k : Nat), .int .i64 9]) (by simp only [results, Tryz.results14]; go_simp) rfl ?_
       exact rd_bad (below_next Hb4.out hb) (H1.out)
      ·
       by_cases hc0 : c.size = 0
       ·
        have H1 := Lib.hid (HBd.out (HS0.out (by rw [HW3.out, HK.out]; simp [emptyB hc0])))
        obtain rfl := emptyB hc0
        subst hs7
        have e1 := tlN hb0
        have e2 : b.toList.isEmpty = false := by simpa using e1
        clear HS1 HS0 HK HBd HST hxs hb0 hc0
        go_wp2_with fail
        refine HCP.out.mono ?_
        rintro e w9 ⟨rfl, rfl⟩
        go_wp2_with fail
        refine HSW.out.mono ?_
        rintro e w9 ⟨wb, rfl, hown, hb9⟩
        have hsw : SA w9 (some ⟨wb, 0, none⟩) W := by
         obtain ⟨a', c', he, h, -, -⟩ := hown.form
         simp only [Value.slice.injEq] at he
         obtain ⟨rfl, -, -⟩ := he
         exact h
        have hwl : wr.heap.size ≤ wb := (hown.lt wb rfl).1
        clear hown
        have hcells : w9.cell? ⟨wb, 0, none⟩ = some (.string sesW) ∧ w9.cell? ⟨wb, 1, none⟩ = some (.string b) ∧ w9.cell? ⟨wb, 2, none⟩ = some (.string (⟨#[]⟩ : ByteArray)) := by
         have q : ∀ i (hi : i < W.length) x, W[i] = x → w9.cell? ⟨wb, i, none⟩ = some (.string x) := fun i hi x hx => by
          obtain ⟨wb2, wo2, h, f⟩ := hsw.str hi
          cases h
          rw [hx, Nat.zero_add] at f
          exact f
         rw [HW3.out] at q
         exact ⟨q 0 (by simp) _ rfl, q 1 (by simp) _ rfl, q 2 (by simp) _ rfl⟩
        obtain ⟨f0, f1, f2⟩ := hcells
        have hl3 := congrArg List.length HW3.out
        have hl3' : W.length = 3 := hl3
        rw [hl3']
        clear hl3 hl3' hsw
        replace f0 : w9.cell? ⟨wb, 0, none⟩ = some (.string ⟨#[115, 101, 115, 115, 105, 111, 110]⟩) := f0
        replace hb := below_next hb hb9
        go_wp2_with fail
        refine bodyPost_ret (v := .tuple #[.slice none 0 0, .int .i64 (k : Nat), .int .i64 9]) (by simp only [results, Tryz.results14]; go_simp) rfl ?_
        exact rd_bad (below_next Hb4.out hb) (H1.out)
       ·
        have Hpr := Lib.hid (HST.out _ (HS1.out (by rw [hs7]; exact okW_good hb0 hc0)))
        subst hs7
        have e1 := tlN hb0
        have e2 : b.toList.isEmpty = false := by simpa using e1
        have e3 := tlN hc0
        have e4 : c.toList.isEmpty = false := by simpa using e3
        clear HS1 HS0 HK HBd HST hxs hb0 hc0
        go_wp2_with fail
        refine HCP.out.mono ?_
        rintro e w9 ⟨rfl, rfl⟩
        go_wp2_with fail
        refine HSW.out.mono ?_
        rintro e w9 ⟨wb, rfl, hown, hb9⟩
        have hsw : SA w9 (some ⟨wb, 0, none⟩) W := by
         obtain ⟨a', c', he, h, -, -⟩ := hown.form
         simp only [Value.slice.injEq] at he
         obtain ⟨rfl, -, -⟩ := he
         exact h
        have hwl : wr.heap.size ≤ wb := (hown.lt wb rfl).1
        clear hown
        have hcells : w9.cell? ⟨wb, 0, none⟩ = some (.string sesW) ∧ w9.cell? ⟨wb, 1, none⟩ = some (.string b) ∧ w9.cell? ⟨wb, 2, none⟩ = some (.string c) := by
         have q : ∀ i (hi : i < W.length) x, W[i] = x → w9.cell? ⟨wb, i, none⟩ = some (.string x) := fun i hi x hx => by
          obtain ⟨wb2, wo2, h, f⟩ := hsw.str hi
          cases h
          rw [hx, Nat.zero_add] at f
          exact f
         rw [HW3.out] at q
         exact ⟨q 0 (by simp) _ rfl, q 1 (by simp) _ rfl, q 2 (by simp) _ rfl⟩
        obtain ⟨f0, f1, f2⟩ := hcells
        have hl3 := congrArg List.length HW3.out
        have hl3' : W.length = 3 := hl3
        rw [hl3']
        clear hl3 hl3' hsw
        replace f0 : w9.cell? ⟨wb, 0, none⟩ = some (.string ⟨#[115, 101, 115, 115, 105, 111, 110]⟩) := f0
        obtain ⟨hpw, hll, hsn⟩ := hA
        have hpwB := hpw.below hb9
        have hbB := below_next hb hb9
        have hol := hpwB.own.lt
        have hzB := hbB.size
        have HLN : Hid (∀ W, Below w9.heap.size w9 W → W.cell? ⟨wb, 1, none⟩ = some (.string b) ∧ W.cell? ⟨wb, 2, none⟩ = some (.string c)) := fun W h => ⟨cell_later h f1, cell_later h f2⟩
        have hsN : Hid (∀ s ∈ l ++ [(⟨b, c, [], none, 0⟩ : Ses)], SesN (k + 1) s) := fun s hs => by
         rcases List.mem_append.1 hs with h1 | h1
         ·
          exact (hsn s h1).mono (by omega)
         ·
          rw [List.mem_singleton] at h1
          subst h1
          exact ⟨hzb, hzc, Nat.zero_le _, fun x hx => by cases hx⟩
        have Hpr2 : Hid (parseTo L (k + 1) = some ((l ++ [(⟨b, c, [], none, 0⟩ : Ses)]).map keyOf3)) := by
         show _ = _
         rw [Hpr.out, List.map_append]; rfl
        have hpwC := hpwB.alloc (.cells #[.string b, .string c, .slice none 0 0] 67)
        have hownC := hpwC.own.drew
        have hpwD := hpwC.below (Below.refl _ _).drew
        have hnw : ¬ v.ownBlock = some wb := fun e => by have := (hpw.own.lt wb e).2; have := hwl; omega
        clear hpw hsn hb hb9 Hpr HLN
        go_upto_region 17 with (fail)
        clear f0
        refine wp_region_held_drew (S := (fun wq => wq.cell? ⟨wb, 1, none⟩ = some (.string b) ∧ wq.cell? ⟨wb, 2, none⟩ = some (.string c))) (by kernel_rfl) ?hS (fun hHeld => ?_)
        case hS => exact ⟨f1, f2⟩
        refine rt 0 (some 89) ?_
        refine rt 1 (some 90) ?_
        refine rt 2 (some 91) ?_
        refine rt 3 (some 92) ?_
        refine rt 4 (some 93) ?_
        refine rt 5 (some 94) ?_
        refine rt 6 (some 95) ?_
        refine rt 7 (some 96) ?_
        refine rcall (i := 8) (d := (some 97)) (by kernel_rfl) rfl (by kernel_rfl) (fun K hK => ?_)
        go_simp
        skip
        refine hK.out _ _ ?hS (fun hHeld => ?_)
        case hS => exact (have hA := (Below.refl w9.heap.size w9).drew.alloc (by show w9.heap.size ≤ _; exact Nat.le_refl _) (.cells #[.string b, .string c, .slice none 0 0] 67); ⟨cell_later hA f1, cell_later hA f2⟩)
        clear hK K
        simp only [Act.put, lsetA, lsetZ, lsetS]
        refine rcall (i := 9) (d := (some 98)) (by kernel_rfl) rfl (by kernel_rfl) (fun K hK => ?_)
        refine step_append_lie (α := Ses) (by rfl) _ _ 34 (by rfl) 67 56 (.agg #[.string ⟨#[]⟩, .string ⟨#[]⟩, .slice none 0 0]) Tryz.underlying34 infoSesA (by rfl) v l (by rfl) hownC (⟨b, c, [], none, 0⟩ : Ses) w9.heap.size (by rfl) (Box.drew (Box.new w9 67 #[.string b, .string c, .slice none 0 0])) (by omega) (by omega) (by simp; omega) ?_; intro g9 cap9 wX hown9 hg9 hat9; have hk9 : Kp (fun q => v.ownBlock = some q) w9 wX := (((Kp.refl (fun q => v.ownBlock = some q) w9).alloc (.cells #[.string b, .string c, .slice none 0 0] 67)).drew).grown hg9 (fun q hq => .inl hq)
        refine hK.out _ _ ?hS (fun hHeld => ?_)
        case hS => exact ⟨cellKp hk9 hnw f1, cellKp hk9 hnw f2⟩
        clear hK K
        simp only [Act.put, lsetA, lsetZ, lsetS]
        refine rt 10 (some 8) ?_
        refine wpAnyH_done (by kernel_rfl) ?_ _
        have hpwE := hpwD.snoc (x := (⟨b, c, [], none, 0⟩ : Ses)) (Own.nil _ _ _) (fun j hj e => by cases e) (fun y hy j hj e => by cases e) hg9 hown9 (atNew hat9)
        have hbE := below_kp hbB hk9 (fun q hq => (hol q hq).1) (by omega)
        have HLE : Hid ((l ++ [(⟨b, c, [], none, 0⟩ : Ses)]).length = l.length + 1) := by show _ = _; rw [List.length_append]; rfl
        clear hHeld hk9 hg9 hown9 hat9 hpwD hpwC hownC hbB f1 f2 hol
        go_wp2_with fail
        rw [← Hla.out]
        go_roundg (n - (k + 1))
        case measure => have := hgk.out; omega
        case rel => exact ⟨k + 1, _, _, by go_num, rfl, by omega, rfl, ⟨hpwE, by rw [HLE.out]; omega, hsN.out⟩, Hpr2.out, hbE⟩
     ·
      have H1 := Lib.hid (HBd.out (HS0.out (by rw [HW3.out, HK.out]; simp [hs7])))
      have e1 : (a.toList == [115, 101, 115, 115, 105, 111, 110]) = false := by rw [beq_eq_false_iff_ne]; intro e; exact hs7 (toList_inj.1 (by rw [e, ByteArray.toList_eq]; rfl))
      have e2 : (a.toList != [115, 101, 115, 115, 105, 111, 110]) = true := by rw [bne, e1]; rfl
      clear HS1 HS0 HK HBd HST hxs hs7
      go_wp2_with fail
      refine HCP.out.mono ?_
      rintro e w9 ⟨rfl, rfl⟩
      go_wp2_with fail
      refine HSW.out.mono ?_
      rintro e w9 ⟨wb, rfl, hown, hb9⟩
      have hsw : SA w9 (some ⟨wb, 0, none⟩) W := by
       obtain ⟨a', c', he, h, -, -⟩ := hown.form
       simp only [Value.slice.injEq] at he
       obtain ⟨rfl, -, -⟩ := he
       exact h
      have hwl : wr.heap.size ≤ wb := (hown.lt wb rfl).1
      clear hown
      have hcells : w9.cell? ⟨wb, 0, none⟩ = some (.string a) ∧ w9.cell? ⟨wb, 1, none⟩ = some (.string b) ∧ w9.cell? ⟨wb, 2, none⟩ = some (.string c) := by
       have q : ∀ i (hi : i < W.length) x, W[i] = x → w9.cell? ⟨wb, i, none⟩ = some (.string x) := fun i hi x hx => by
        obtain ⟨wb2, wo2, h, f⟩ := hsw.str hi
        cases h
        rw [hx, Nat.zero_add] at f
        exact f
       rw [HW3.out] at q
       exact ⟨q 0 (by simp) _ rfl, q 1 (by simp) _ rfl, q 2 (by simp) _ rfl⟩
      obtain ⟨f0, f1, f2⟩ := hcells
      have hl3 := congrArg List.length HW3.out
      have hl3' : W.length = 3 := hl3
      rw [hl3']
      clear hl3 hl3' hsw
      replace hb := below_next hb hb9
      go_wp2_with fail
      refine bodyPost_ret (v := .tuple #[.slice none 0 0, .int .i64 (k : Nat), .int .i64 9]) (by simp only [results, Tryz.results14]; go_simp) rfl ?_
      exact rd_bad (below_next Hb4.out hb) (H1.out)
    ·
     have H1 := Lib.hid (HBd.out (HS0.out (by
      unfold okWords
      rw [decide_eq_false h3]
      simp)))
     have hd3 : ((W.length : Int) != 3) = true := by rw [bne_iff_ne]; omega
     clear HS1 HS0 HK HBd HST hxs hzW hlW h3
     go_wp2_with fail
     refine HCP.out.mono ?_
     rintro e w9 ⟨rfl, rfl⟩
     go_wp2_with fail
     refine HSW.out.mono ?_
     rintro e w9 ⟨wb, rfl, hown, hb9⟩
     have hsw : SA w9 (some ⟨wb, 0, none⟩) W := by
      obtain ⟨a', c', he, h, -, -⟩ := hown.form
      simp only [Value.slice.injEq] at he
      obtain ⟨rfl, -, -⟩ := he
      exact h
     have hwl : wr.heap.size ≤ wb := (hown.lt wb rfl).1
     clear hown
     replace hb := below_next hb hb9
     go_wp2_with fail
     refine bodyPost_ret (v := .tuple #[.slice none 0 0, .int .i64 (k : Nat), .int .i64 9]) (by simp only [results, Tryz.results14]; go_simp) rfl ?_
     exact rd_bad (below_next Hb4.out hb) (H1.out)
   ·
    have HS1 : Hid (okPap (l.map keyOf3) (rest2 s) = true → stepP (l.map keyOf3) s = some (addPap (l.map keyOf3) (rest2 s))) := fun h => step_pap hp2 h
    have HS0 : Hid (okPap (l.map keyOf3) (rest2 s) = false → stepP (l.map keyOf3) s = none) := fun h => step_badPap hp2 h
    rw [hp2] at HCP
    have HK : Hid (okPap (l.map keyOf3) (rest2 s) = (!decide ((rest2 s).size = 0) && (!has32 (rest2 s) && decide (0 < l.length)))) := by unfold okPap; rw [List.length_map]; rfl
    clear hp2
    generalize rest2 s = x at *
    have HH := Lib.hid (has32_any x wr)
    by_cases hl0 : 0 < l.length
    ·
     have hd0 : ((l.length : Int) == 0) = false := by rw [beq_eq_false_iff_ne]; omega
     by_cases hx0 : x.size = 0
     ·
      have H1 := Lib.hid (HBd.out (HS0.out (by rw [HK.out, decide_eq_true hx0]; rfl)))
      obtain rfl := emptyB hx0
      obtain ⟨pa, pc, rfl, -, -, -⟩ := hA.1.own.form
      clear hx0 HS1 HS0 HK HBd HST
      go_wp2_with fail
      refine HCP.out.mono ?_
      rintro e w9 ⟨rfl, rfl⟩
      go_wp2_with fail
      refine bodyPost_ret (v := .tuple #[.slice none 0 0, .int .i64 (k : Nat), .int .i64 9]) (by simp only [results, Tryz.results14]; go_simp) rfl ?_
      exact rd_bad (below_next Hb4.out hb) (H1.out)
     ·
      have e1 := tlN hx0
      have e2 : x.toList.isEmpty = false := by simpa using e1
      cases hh : has32 x
      ·
       rw [hh] at HH HK
       have Hpr := Lib.hid (HST.out _ (HS1.out (by rw [HK.out, decide_eq_false hx0, decide_eq_true hl0]; rfl)))
       obtain ⟨hpw, hll, hsn⟩ := hA
       obtain ⟨pa, pc, rfl, hsaS, -, -⟩ := hpw.own.form
       obtain ⟨gg, rfl⟩ := PW.addr hpw hl0
       obtain ⟨j, hj⟩ : ∃ j, l.length = j + 1 := ⟨l.length - 1, by omega⟩
       have hjl : j < l.length := by omega
       rw [← addPap_setJ hj x none 0] at Hpr
       have hw : IntKind.i64.wrap ((l.length : Int) - 1) = (j : Int) := by rw [IntWalk.i64_in _ (by omega)]; omega
       have hj0 : (0 : Int) ≤ (j : Int) := by omega
       have hj2 : (j : Int) < (l.length : Int) := by omega
       obtain ⟨mb, moff, ha', -, -, c2⟩ := hsaS.sesC hjl
       cases ha'
       rw [Nat.zero_add] at c2
       have hyo := hpw.inn _ (List.getElem_mem hjl)
       have hya := hpw.apt _ (List.getElem_mem hjl)
       have hyn := hsn _ (List.getElem_mem hjl)
       have hyl := hyo.lt
       have hgl := hpw.own.lt gg rfl
       have hpwA := hpw.alloc (.cells #[.string x] 9)
       have hyoA := hyo.alloc (.cells #[.string x] 9)
       have hbA := hb.alloc hb.size (.cells #[.string x] 9)
       have HPP := Lib.hid (fun (w1 : World) (a2 : Option Addr) (c2 : Nat) (v2 : Value) (hv2 : v2 = .slice a2 (l[j].papers ++ [x]).length c2) (hkp : Kp (fun q => l[j].pv.ownBlock = some q) (wr.alloc (.cells #[.string x] 9)) w1) (h2 : Own w3.heap.size 9 w1 v2 (l[j].papers ++ [x])) (hat : ∀ q, v2.ownBlock = some q → l[j].pv.ownBlock = some q ∨ (wr.alloc (.cells #[.string x] 9)).heap.size ≤ q) => PW.papers hpwA hjl hv2 hkp h2 hat)
       have hgn : ¬ (l[j].pv.ownBlock = some gg) := fun e => hya gg rfl e
       have c2A := cell_later ((Below.refl wr.heap.size wr).alloc (Nat.le_refl _) (.cells #[.string x] 9)) c2
       obtain ⟨cr, hbx⟩ := hpwA.own.box
       have hpl := hyn.2.2.1
       have hzr := hb.size
       have Hlk : Hid (∀ (a2 : Option Addr) (c2 : Nat), (l.set j ⟨l[j].slot, l[j].room, l[j].papers ++ [x], a2, c2⟩).length = l.length ∧ (∀ s ∈ l.set j ⟨l[j].slot, l[j].room, l[j].papers ++ [x], a2, c2⟩, SesN (k + 1) s) ∧ parseTo L (k + 1) = some ((l.set j ⟨l[j].slot, l[j].room, l[j].papers ++ [x], a2, c2⟩).map keyOf3)) := fun a2 c2 => by
        refine ⟨List.length_set .., fun s hs => ?_, ?_⟩
        ·
         rcases List.mem_or_eq_of_mem_set hs with h | rfl
         ·
          exact (hsn s h).mono (by omega)
         ·
          obtain ⟨q1, q2, q3, q4⟩ := hyn
          refine ⟨q1, q2, by show (l[j].papers ++ [x]).length ≤ _; rw [List.length_append]; show _ + 1 ≤ _; omega, fun y hy => ?_⟩
          rcases List.mem_append.1 hy with h | h
          ·
           exact q4 y h
          ·
           rw [List.mem_singleton.1 h]; omega
        ·
         rw [Hpr.out, addPap_setJ hj x none 0, addPap_setJ hj x a2 c2]
       have Hll := Lib.hid hll
       have Hgl := Lib.hid hgl
       have Hyl := Lib.hid hyl
       clear HS1 HS0 HK HBd HST hsaS hpw hpwA hyo hya hyn hsn hll hgl hyl Hpr hxs hj
       go_wp2_with fail
       refine HCP.out.mono ?_
       rintro e w9 ⟨rfl, rfl⟩
       go_wp2_with fail
       refine HH.out.mono ?_
       rintro e w9 ⟨rfl, rfl⟩
       go_wp2_with (at_builtin; refine wpList_append_lie (α := ByteArray) rfl _ _ 57 rfl 9 16 (.string ⟨#[]⟩) Tryz.underlying57 Tryz.infoString rfl l[j].pv l[j].papers rfl hyoA x _ rfl (Box.new _ _ _) (by omega) (by omega) (by simp; omega) ?_; intro g9 cap9 w9 hown9 hg9 hat9; have hk9 : Kp (fun q => l[j].pv.ownBlock = some q) (wr.alloc (.cells #[.string x] 9)) w9 := (Kp.refl (fun q => l[j].pv.ownBlock = some q) (wr.alloc (.cells #[.string x] 9))).grown hg9 (fun q hq => .inl hq); have hfr := (hbx.kp hk9 hgn).frozen (j * 3 + 2); have hcc := cellKp hk9 hgn c2A)
       have hpw9 := HPP.out w9 (some ⟨g9, 0, none⟩) cap9 (.slice (some ⟨g9, 0, none⟩) (l[j].papers.length + 1) cap9) (by rw [List.length_append]; rfl) hk9 hown9 (atNew hat9)
       have hbk := below_kp hbA hk9 (fun q hq => (Hyl.out q hq).1) (by simp; omega)
       have hbF := hbk.setCell (p := ⟨gg, j * 3 + 2, none⟩) (Hgl.out.1) (.slice (some ⟨g9, 0, none⟩) (l[j].papers.length + 1) cap9)
       obtain ⟨q1, q2, q3⟩ := Hlk.out (some ⟨g9, 0, none⟩) cap9
       have Q3 := Lib.hid q3
       have Q1 := Lib.hid q1
       clear hk9 hown9 hg9 hat9 hfr hcc hbk hbA hyoA hbx c2 c2A HPP Hlk q3 q1 c0
       (try go_wp2_with fail)
       rw [← Hla.out]
       go_roundg (n - (k + 1))
       case measure => have := hgk.out; omega
       case rel => exact ⟨k + 1, _, _, by go_num, rfl, by omega, rfl, ⟨hpw9, by rw [Q1.out]; have := Hll.out; omega, q2⟩, Q3.out, hbF⟩
      ·
       rw [hh] at HH HK
       have H1 := Lib.hid (HBd.out (HS0.out (by rw [HK.out, decide_eq_false hx0]; rfl)))
       obtain ⟨pa, pc, rfl, -, -, -⟩ := hA.1.own.form
       clear hx0 HS1 HS0 HK HBd HST
       go_wp2_with fail
       refine HCP.out.mono ?_
       rintro e w9 ⟨rfl, rfl⟩
       go_wp2_with fail
       refine HH.out.mono ?_
       rintro e w9 ⟨rfl, rfl⟩
       go_wp2_with fail
       refine bodyPost_ret (v := .tuple #[.slice none 0 0, .int .i64 (k : Nat), .int .i64 9]) (by simp only [results, Tryz.results14]; go_simp) rfl ?_
       exact rd_bad (below_next Hb4.out hb) (H1.out)
    ·
     have hd0 : ((l.length : Int) == 0) = true := by rw [beq_iff_eq]; omega
     have H1 := Lib.hid (HBd.out (HS0.out (by rw [HK.out, decide_eq_false hl0]; simp)))
     obtain ⟨pa, pc, rfl, -, -, -⟩ := hA.1.own.form
     clear HS1 HS0 HK HBd HST
     have Hl0 := Lib.hid hl0
     clear hl0
     go_wp2_with fail
     refine HCP.out.mono ?_
     rintro e w9 ⟨rfl, rfl⟩
     go_wp2_with fail
     refine bodyPost_ret (v := .tuple #[.slice none 0 0, .int .i64 (k : Nat), .int .i64 9]) (by simp only [results, Tryz.results14]; go_simp) rfl ?_
     exact rd_bad (below_next Hb4.out hb) (H1.out)
  ·
   obtain rfl : k = n := by omega
   obtain ⟨hpw, hll, hsn⟩ := hA
   obtain ⟨pa, pc, rfl, hprg, -, hcap⟩ := hpw.prg
   have hbw := below_next Hb4.out hb
   have hlast := HLB.out _ hb
   by_cases hen : (lastB L).size = 0
   ·
    have hXr := hX3.below hb
    have hok : ∀ s ∈ l, SesOk s := fun s hs => by
     obtain ⟨q1, q2, q3, q4⟩ := hsn s hs
     exact ⟨q1, q2, by omega, q4⟩
    have HFL := Lib.hid (progFaultR_any g l pa pc wr (HG.out _ hbw) HZ.out hprg (by omega) hok hcap)
    have HPG := Lib.hid (fun W (h : Below wr.heap.size wr W) => hprg.below h)
    have HE4 : Hid (progFault g l = 0 → RdCase text (faultC g) 0 0 (l.map keyOf3)) := fun h => HC4.out _ hpr.out hen (by rw [faultC_of g rfl]; exact h)
    have HE3 : Hid (progFault g l ≠ 0 → RdCase text (faultC g) (progFault g l) 0 []) := fun h => by
     have := HC3.out _ hpr.out hen (by rw [faultC_of g rfl]; exact h)
     rw [faultC_of g rfl] at this
     exact this
    have Hpl : Hid (l.length ≤ 200000 ∧ ∀ s ∈ l, s.papers.length ≤ 200000) := ⟨by omega, fun s hs => by have := (hsn s hs).2.2.1; omega⟩
    rw [Grd.agg_eq] at HFL
    generalize progFault g l = pf at *
    rw [emptyB hen] at hlast
    clear hpw hsn hok hprg hb HC2 HC3 HC4 HBAD HL HLB hpr HEM3 HG hen
    have hXr_l := hXr.lt; have hXr_0 := hXr.cell 0; have hXr_1 := hXr.cell 1; have hXr_2 := hXr.cell 2; have hXr_3 := hXr.cell 3; have hXr_4 := hXr.cell 4; simp at hXr_0 hXr_1 hXr_2 hXr_3 hXr_4
    go_wp2_with fail
    clear hXr_l hXr_0 hXr_1 hXr_2 hXr_3 hXr_4
    clear hXr hlast
    refine HFL.out.mono ?_
    rintro e wG ⟨rfl, hbG⟩
    have hbwG := below_next hbw hbG
    have hpg := HPG.out _ hbG
    by_cases q2 : pf = 0
    ·
     subst q2
     have hc := HE4.out rfl
     clear HE3 HE4 HFL hbG
     go_wp2_with fail
     refine bodyPost_ret (v := .tuple #[.slice pa l.length pc, .int .i64 0, .int .i64 0]) (by simp only [results, Tryz.results14]; go_simp) rfl ?_
     exact ⟨hbwG, 0, 0, _, l, pa, pc, hc, rfl, hpg, rfl, Hpl.out.1, Hpl.out.2⟩
    ·
     have hc := HE3.out q2
     have hq : (pf != 0) = true := by simpa using q2
     clear HE3 HE4 HFL hbG q2
     go_wp2_with fail
     refine bodyPost_ret (v := .tuple #[.slice none 0 0, .int .i64 0, .int .i64 pf]) (by simp only [results, Tryz.results14]; go_simp) rfl ?_
     exact rd_bad hbwG hc
   ·
    have H1 := Lib.hid (HC2.out _ hpr.out hen)
    have e1 := tlN hen
    have e2 : (lastB L).toList.isEmpty = false := by simpa using e1
    generalize lastB L = la at *
    clear hpw hsn hprg HC3 HC4 HBAD HL HLB hpr HEM3 HG HC2 hen
    go_wp2_with fail
    refine bodyPost_ret (v := .tuple #[.slice none 0 0, .int .i64 (k : Nat), .int .i64 9]) (by simp only [results, Tryz.results14]; go_simp) rfl ?_
    exact rd_bad hbw H1.out
end Go.Proofs.YtldgphhiajhfhaaGreatDoor
