/- Papers at one time that somebody wants to hear, by program and reference, and that they are the same; the cost. -/
import Derived.Test.YthnbcdgbpofnjaaGreatDoorCrowd
import Derived.Test.YthnbcdgbpofnjaaGreatDoorBesd
namespace Go.Proofs.YthnbcdgbpofnjaaGreatDoor
open Go.RowKit Go.Sort
set_option linter.unusedVariables false
set_option linter.unusedSimpArgs false

section
variable {κ : Type} [DecidableEq κ] {enc : κ → Value} {ok : κ → Prop} {P : Program} {w : World} {b : Nat} {l : List (κ × Value)} {t kt et : TypeId}
theorem step_mapEntry_gbox {ops : Array Oper} {o : Oper} {a : Act} {K : Act → World → Prop} {Q : Exit → Act → World → Prop} {E : Prop} (hgd : o.guard = none)
  (m x : Operand) (t : TypeId) (hop : o.op = Op.mapEntry t m x) (kt et : TypeId) (ht : P.underlying t = some (.map kt et)) (hK : Keys P kt enc ok) (z : Value) (hz : ∀ w, (zeroValue et).run P w = .ok z w)
  (b : Nat) (l : List (κ × Value)) (hm : a.eval m = .map (some b)) (hbox : GBox enc ok w b l) (k : κ) (hk : ok k) (hx : a.eval x = enc k)
  (hW : ∀ (v0 : Value) (st : Nat) (w1 : World) (l1 : List (κ × Value)), GBox enc ok w1 b l1 → glooked l1 k z false = glooked l k z false → w.grownBy w1 (some b) → w1.heap.size = w.heap.size → (∀ (w2 : World) (val : Value), w2.heap[b]? = w1.heap[b]? → ∃ w3, (Instr.entryStore t (.map (some b)) (.int .i64 st) val).run P w2 = .ok () w3 ∧ GBox enc ok w3 b (gput l k val) ∧ w2.grownBy w3 (some b) ∧ w3.heap.size = w2.heap.size) → K (a.put o.dst (.tuple #[v0, .int .i64 st])) w1) :
  if Region.wanted o (yielded ops a.tmps) = true then Oper.wp P o a w K Q else E := by
 have hw : Region.wanted o (yielded ops a.tmps) = true := by simp [Region.wanted, hgd]
 rw [if_pos hw]
 obtain ⟨v0, st, w1, l1, hrun, r1, r2, r3, r4, r5⟩ := hbox.ment hK ht z hz k hk
 unfold Oper.wp
 simp [execOp, hop, hm, hx, hrun, Result.andThen]
 exact hW v0 st w1 l1 r1 ((r2 false).resolve_right (by decide)) r3 r4 r5
theorem step_entryStore {ops : Array Oper} {o : Oper} {a : Act} {K : Act → World → Prop} {Q : Exit → Act → World → Prop} {E : Prop} (hgd : o.guard = none)
  (m s x : Operand) (t : TypeId) (hop : o.op = Op.entryStore t m s x) (b st : Nat) (val : Value) (hm : a.eval m = .map (some b)) (hs : a.eval s = .int .i64 st) (hx : a.eval x = val)
  (R : World → Prop) (hrun : ∃ w3, (Instr.entryStore t (.map (some b)) (.int .i64 st) val).run P w = .ok () w3 ∧ R w3) (hW : ∀ w3, R w3 → K (a.put o.dst undef) w3) :
  if Region.wanted o (yielded ops a.tmps) = true then Oper.wp P o a w K Q else E := by
 have hw : Region.wanted o (yielded ops a.tmps) = true := by simp [Region.wanted, hgd]
 rw [if_pos hw]
 obtain ⟨w3, h1, h2⟩ := hrun
 unfold Oper.wp
 simp [execOp, hop, hm, hs, hx, h1, Result.andThen]
 exact hW w3 h2
end
def sesN (p : List Ses) (a : ByteArray) : Ses := p.getD (placeI p a).toNat ⟨⟨#[]⟩, ⟨#[]⟩, [], none, 0⟩
/-- Two papers are in different sessions at one time. -/
def clB (g : Grd) (p : List Ses) (a b : ByteArray) : Bool := inP p a && (inP p b && (!decide (placeI p a = placeI p b) && meetsB g (sesN p a) (sesN p b)))
def evR (g : Grd) (p : List Ses) (a : ByteArray) (l : List ByteArray) (n : Nat) : List Two := ((l.take n).filter (clB g p a)).map (fun b => (a, b))
theorem evR_succ {g : Grd} {p : List Ses} {a : ByteArray} {l : List ByteArray} {n : Nat} (h : n < l.length) : evR g p a l (n + 1) = evR g p a l n ++ if clB g p a l[n] = true then [(a, l[n])] else [] := by
 unfold evR
 rw [List.take_succ_eq_append_getElem h, List.filter_append, List.map_append]
 congr 1
 by_cases hc : clB g p a l[n] = true
 ·
  rw [if_pos hc]; simp [hc]
 ·
  rw [if_neg hc]; simp [hc]
theorem evR_len (g : Grd) (p : List Ses) (a : ByteArray) (l : List ByteArray) (n : Nat) : (evR g p a l n).length ≤ l.length := by
 unfold evR
 rw [List.length_map]
 have h := List.length_filter_le (clB g p a) (l.take n)
 rw [List.length_take] at h
 omega
def evW (g : Grd) (p : List Ses) (l : List ByteArray) : Nat → List Two
 | 0 => []
 | i + 1 => evW g p l i ++ (match l[i]? with
  | none => []
  | some a => evR g p a (l.drop (i + 1)) (l.drop (i + 1)).length)
theorem evW_succ {g : Grd} {p : List Ses} {l : List ByteArray} {i : Nat} (h : i < l.length) : evW g p l (i + 1) = evW g p l i ++ evR g p l[i] (l.drop (i + 1)) (l.drop (i + 1)).length := by
 show evW g p l i ++ (match l[i]? with | none => [] | some a => evR g p a (l.drop (i + 1)) (l.drop (i + 1)).length) = _
 rw [List.getElem?_eq_getElem h]
theorem evW_len (g : Grd) (p : List Ses) (l : List ByteArray) : ∀ i, i ≤ l.length → (evW g p l i).length ≤ l.length * i
 | 0, _ => Nat.le_refl _
 | i + 1, h => by
  have h1 := evW_len g p l i (by omega)
  have h2 := evR_len g p (l[i]'(by omega)) (l.drop (i + 1)) (l.drop (i + 1)).length
  rw [List.length_drop] at h2
  rw [evW_succ (by omega : i < l.length), List.length_append, Nat.mul_succ, List.length_drop]
  omega
def evT (g : Grd) (p : List Ses) : Nat → List Two
 | 0 => []
 | n + 1 => evT g p n ++ (match g.wishes[n]? with
  | none => []
  | some x => evW g p x.papers x.papers.length)
theorem evT_succ {g : Grd} {p : List Ses} {n : Nat} (h : n < g.wishes.length) : evT g p (n + 1) = evT g p n ++ evW g p g.wishes[n].papers g.wishes[n].papers.length := by
 show evT g p n ++ (match g.wishes[n]? with | none => [] | some x => evW g p x.papers x.papers.length) = _
 rw [List.getElem?_eq_getElem h]
theorem evT_len {g : Grd} (hz : GSm g) (p : List Ses) : ∀ n, n ≤ g.wishes.length → (evT g p n).length ≤ 1000000 * n
 | 0, _ => Nat.le_refl _
 | n + 1, h => by
  have h1 := evT_len hz p n (by omega)
  have h2 := evW_len g p (g.wishes[n]'(by omega)).papers _ (Nat.le_refl _)
  have h3 := (hz.wish (g.wishes[n]'(by omega)) (List.getElem_mem _)).2.1
  have h4 : (g.wishes[n]'(by omega)).papers.length * (g.wishes[n]'(by omega)).papers.length ≤ 1000 * 1000 := Nat.mul_le_mul h3 h3
  rw [evT_succ (by omega : n < g.wishes.length), List.length_append]
  omega
def numV : Value → Int
 | .int _ z => z
 | _ => 0
def cStep (m : List (Two × Value)) (k : Two) : List (Two × Value) := gput m k (.int .i64 (numV ((gget m k).getD (.int .i64 0)) + 1))
def cM (ev : List Two) : List (Two × Value) := ev.foldl cStep []
theorem cM_snoc (ev : List Two) (k : Two) : cM (ev ++ [k]) = cStep (cM ev) k := by unfold cM; rw [List.foldl_append]; rfl
/-- How often a pair stands in a list. -/
def cntT (ev : List Two) (k : Two) : Nat := ev.countP (fun e => decide (e = k))
theorem cM_getR (k : Two) : ∀ ev : List Two, gget (cM ev.reverse) k = if cntT ev k = 0 then none else some (Value.int .i64 (cntT ev k : Nat))
 | [] => by simp [cM, gget, cntT]
 | e :: r => by
  rw [List.reverse_cons, cM_snoc]
  unfold cStep
  rw [gget_gput, cM_getR e r, cM_getR k r]
  have hc : cntT (e :: r) k = cntT r k + if e = k then 1 else 0 := by
   unfold cntT
   rw [List.countP_cons]
   congr 1
   by_cases h : e = k
   ·
    rw [decide_eq_true h, if_pos rfl, if_pos h]
   ·
    rw [decide_eq_false h, if_neg (by decide), if_neg h]
  by_cases h : e = k
  ·
   subst h
   rw [if_pos rfl] at hc
   rw [hc, if_pos rfl, if_neg (show ¬ cntT r e + 1 = 0 by omega)]
   by_cases h2 : cntT r e = 0
   ·
    rw [if_pos h2, h2]; rfl
   ·
    rw [if_neg h2]; rfl
  ·
   rw [if_neg h] at hc
   rw [hc, if_neg h, Nat.add_zero]
theorem cM_get (ev : List Two) (k : Two) : gget (cM ev) k = if cntT ev k = 0 then none else some (Value.int .i64 (cntT ev k : Nat)) := by
 have h := cM_getR k ev.reverse
 rw [List.reverse_reverse] at h
 have hc : cntT ev.reverse k = cntT ev k := by unfold cntT; rw [List.countP_reverse]
 rw [h, hc]
def toC (e : Two × Value) : Clh := (e.1.1, e.1.2, numV e.2)
def clP (g : Grd) (p : List Ses) : List Clh := (cM (evT g p g.wishes.length)).map toC
theorem cStep_len (m : List (Two × Value)) (k : Two) : (cStep m k).length ≤ m.length + 1 := gput_length _ _ _
theorem cM_lenR : ∀ ev : List Two, (cM ev.reverse).length ≤ ev.length
 | [] => Nat.le_refl _
 | e :: r => by
  rw [List.reverse_cons, cM_snoc]
  have h1 := cM_lenR r
  have h2 := cStep_len (cM r.reverse) e
  rw [List.length_cons]; omega
theorem cM_len (ev : List Two) : (cM ev).length ≤ ev.length := by
 have h := cM_lenR ev.reverse
 rw [List.reverse_reverse, List.length_reverse] at h
 exact h
theorem sesN_at {g : Grd} {p : List Ses} (h : firstErr (sesE g p) p.length = 0) {i : Nat} (hi : i < p.length) {x : ByteArray} (h1 : inB p[i].papers x = true) : sesN p x = p[i] ∧ placeI p x = (i : Nat) := by
 have h2 := placeI_at h hi h1
 unfold sesN
 rw [h2, Int.toNat_natCast, List.getD_eq_getElem?_getD, List.getElem?_eq_getElem hi]
 exact ⟨rfl, rfl⟩
/-- Sorted lists of the same clashes are the same. -/
theorem cmpClh_zero {x y : Clh} (h : cmpClh x y = 0) : x = y := by
 obtain ⟨x1, x2, x3⟩ := x
 obtain ⟨y1, y2, y3⟩ := y
 unfold cmpClh firstOf at h
 simp only at h
 split at h
 ·
  next h1 => exact absurd h h1
 next h1 =>
 unfold firstOf at h
 split at h
 ·
  next h2 => exact absurd h h2
 next h2 =>
 unfold firstOf at h
 split at h
 ·
  next h3 => exact absurd h h3
 next h3 =>
 have e1 : x3 = y3 := by
  have := Classical.not_not.1 h1
  unfold Lib.compareInt at this
  split at this
  ·
   exact absurd this (by decide)
  ·
   split at this
   ·
    exact absurd this (by decide)
   ·
    omega
 rw [e1, cmpS_zero.1 (Classical.not_not.1 h2), cmpS_zero.1 (Classical.not_not.1 h3)]
theorem same_sorted : ∀ (l m : List Clh), l.Pairwise (fun x y => cmpClh x y ≤ 0) → m.Pairwise (fun x y => cmpClh x y ≤ 0) → l.Perm m → l = m
 | [], m, _, _, h => (List.nil_perm.1 h).symm
 | x :: l, [], _, _, h => absurd (List.perm_nil.1 h) (by simp)
 | x :: l, y :: m, hl, hm, h => by
  have hxy : x = y := by
   have hx : x ∈ y :: m := h.mem_iff.1 List.mem_cons_self
   have hy : y ∈ x :: l := h.mem_iff.2 List.mem_cons_self
   rcases List.mem_cons.1 hx with e | hx
   ·
    exact e
   ·
    rcases List.mem_cons.1 hy with e | hy
    ·
     exact e.symm
    ·
     have h1 := (List.pairwise_cons.1 hl).1 y hy
     have h2 := (List.pairwise_cons.1 hm).1 x hx
     have h3 := totC_Clh.neg x y
     have h4 := totC_Clh.neg y x
     exact cmpClh_zero (by omega)
  subst hxy
  rw [same_sorted l m (List.pairwise_cons.1 hl).2 (List.pairwise_cons.1 hm).2 h.cons_inv]
theorem sortClh_both (l : List Clh) : (sortClh l).Perm l ∧ (sortClh l).Pairwise (fun x y => cmpClh x y ≤ 0) := (sortC_both totC_Clh l).2
theorem sortClh_perm {l m : List Clh} (h : l.Perm m) : sortClh l = sortClh m := same_sorted _ _ (sortClh_both l).2 (sortClh_both m).2 ((sortClh_both l).1.trans (h.trans (sortClh_both m).1.symm))
theorem infoClh : (Tryz.prog.info? 66).map (fun i => (i.zero, i.size, i.bytes)) = some (some (.agg #[.string ⟨#[]⟩, .string ⟨#[]⟩, .int .i64 0]), 3, 40) := by kernel_rfl
theorem evR_none {g : Grd} {p : List Ses} {a : ByteArray} (h : inP p a = false) (l : List ByteArray) (n : Nat) : evR g p a l n = [] := by
 unfold evR
 rw [List.map_eq_nil_iff, List.filter_eq_nil_iff]
 intro b _
 unfold clB
 rw [h, Bool.false_and]; decide
theorem cM_intR : ∀ ev : List Two, ∀ q ∈ cM ev.reverse, ∃ n : Int, q.2 = .int .i64 n
 | [], q, h => by cases h
 | e :: r, q, h => by
  rw [List.reverse_cons, cM_snoc] at h
  unfold cStep at h
  have hm : ∀ (l : List (Two × Value)) (v : Value), q ∈ gput l e v → q ∈ l ∨ q = (e, v) := by
   intro l v
   induction l with
   | nil => intro h; exact .inr (List.mem_singleton.1 h)
   | cons x l ih =>
    intro h
    unfold gput at h
    split at h
    ·
     rcases List.mem_cons.1 h with h | h
     ·
      exact .inr h
     ·
      exact .inl (List.mem_cons_of_mem _ h)
    ·
     rcases List.mem_cons.1 h with h | h
     ·
      exact .inl (by rw [h]; exact List.mem_cons_self)
     ·
      exact (ih h).imp (List.mem_cons_of_mem _) id
  rcases hm _ _ h with h | h
  ·
   exact cM_intR r q h
  ·
   exact ⟨_, by rw [h]⟩
theorem cM_int (ev : List Two) : ∀ q ∈ cM ev, ∃ n : Int, q.2 = .int .i64 n := by
 have h := cM_intR ev.reverse
 rwa [List.reverse_reverse] at h
set_option maxRecDepth 100000 in
set_option maxHeartbeats 16000000 in
theorem clashesP_any (g : Grd) (fb br bs bt bb : Nat) (p : List Ses) (pa : Option Addr) (pc : Nat) (w : World) (hF : FieldAt g fb br bs bt bb w) (hg : GRd w g) (hz : GSm g) (hn : GNd g) (hp : PRg w pa p) (hpl : p.length ≤ 1000) (hpo : ∀ s ∈ p, SesOk s) (hfm : firstErr (sesE g p) p.length = 0) (hwc : ∀ x ∈ g.wishes, x.papers.length ≤ x.c1) (hwl : g.wishes.length ≤ 50) :
  Calls Tryz.prog 80 #[.pointer (some ⟨fb, 0, none⟩), .slice pa p.length pc] w (GivesOwn 66 (sortClh (clP g p)) w) := by
 have HSO := Lib.hid (sessionOf_any p pa pc w hp (by omega) (fun s hs => (hpo s hs).2.2.1))
 have HF := Lib.hid (fun W (h : Below w.heap.size w W) => hF.below h)
 have HG := Lib.hid (fun W (h : Below w.heap.size w W) => hg.below h)
 have HP := Lib.hid (fun W (h : Below w.heap.size w W) => hp.below h)
 have HBS := Lib.hid (fun a b W (h : Below w.heap.size w W) ha hb => besideP_any g fb br bs bt bb a b W (hF.below h) (hg.below h) hz hn ha hb)
 have HSL := Lib.hid (fun s hs => (form_ok hfm s hs).1)
 have HWO := Lib.hid (fun x hx => (hz.wish x hx).2)
 have HWC := Lib.hid hwc
 have HSA := Lib.hid (fun x hx => sesAt_place (x := x) hfm hx)
 have HSN := Lib.hid (fun i hi x h1 => sesN_at (p := p) (i := i) hfm hi (x := x) h1)
 have HEL := Lib.hid (evT_len hz p)
 have HR : Hid (clP g p = (cM (evT g p g.wishes.length)).map toC) := rfl
 have HSRT := Lib.hid (fun base v l W (h : Own base 66 W v l) hl => sortClhs_any base l v W 129 (enters_of Tryz.func129 (by kernel_rfl) rfl) (fun x y W => clashesClo_any x y W) h hl)
 have hwn := hz.wishes
 generalize clP g p = R at *
 clear hF hg hz hn hp hpo hfm hwc
 go_enter Tryz.func80, Tryz.ntmps80
 go_wp2_with fail
 refine HSO.out.mono ?_
 rintro e w1 ⟨bm, rfl, hbm, hM, hb1⟩
 clear HSO
 have hmm := @run_makeMap Tryz.prog
 go_upto_region 3 with (fail)
 have hG := GBox.newAt enc2 ok2 w1 w1.heap.size rfl
 have hM2 := hM.alloc (.map #[] 0)
 have hb2 := hb1.alloc hb1.size (.map #[] 0)
 have hml := hM.lt
 have hz1 := hb1.size
 clear hmm hb1 hM
 generalize w1.alloc (.map #[] 0) = w2 at *
 generalize w1.heap.size = nC at *
 have hf3 := (HF.out _ hb2).box.cell 3
 simp at hf3
 go_wp2_with fail
 clear hf3
 go_loopg [29] g.wishes.length (fun gk iv wr => ∃ n : Nat, iv = .int .i64 n ∧ n ≤ g.wishes.length ∧ Hid (gk = g.wishes.length - n) ∧ GBox enc2 ok2 wr nC (cM (evT g p n)) ∧ MBox wr bm (sesM p) ∧ Below w.heap.size w wr)
 case atStart => exact ⟨0, rfl, by omega, rfl, hG, hM2, hb2⟩
 case round =>
  clear hG hM2 hb2
  obtain ⟨n, rfl, hn, hgn, hG, hM, hb⟩ := hrel
  by_cases hnl : n < g.wishes.length
  ·
   obtain ⟨ub, uoff, hu, u0, u1⟩ := (HG.out _ hb).wishes.wshC hnl
   have hum : g.wishes[n] ∈ g.wishes := List.getElem_mem hnl
   have HWP := Lib.hid (fun W (h : Below w.heap.size w W) => (HG.out W h).papers _ hum)
   obtain ⟨huw, huz⟩ := HWO.out _ hum
   have hcap := HWC.out _ hum
   have Hev := Lib.hid (evT_succ (p := p) hnl)
   have hel := HEL.out n hn
   have HUZ := Lib.hid huz
   have Hu := Lib.hid hu
   generalize evT g p n = A at *
   generalize g.wishes[n] = u at *
   obtain ⟨v1, v2, v3, v4⟩ := u
   simp only at u0 u1 HWP huw Hev hcap HUZ
   have HEW := Lib.hid (fun i hi => evW_len g p v2 i hi)
   rw [hu]
   clear hu hum huz
   go_upto_region 6 with (fail)
   have hU1 := Box.new wr 103 #[.string v1, .slice v3 v2.length v4]
   have hG1 := hG.alloc (.cells #[.string v1, .slice v3 v2.length v4] 103)
   have hM1 := hM.alloc (.cells #[.string v1, .slice v3 v2.length v4] 103)
   have hb1 := hb.alloc hb.size (.cells #[.string v1, .slice v3 v2.length v4] 103)
   have hGl := hG.lt
   have hG0 : GBox enc2 ok2 (wr.alloc (.cells #[.string v1, .slice v3 v2.length v4] 103)) nC (cM (A ++ evW g p v2 0)) := by show GBox _ _ _ _ (cM (A ++ [])); rw [List.append_nil]; exact hG1
   clear hG hM hb u0 u1 hG1
   generalize wr.alloc (.cells #[.string v1, .slice v3 v2.length v4] 103) = w3 at *
   generalize wr.heap.size = n3 at *
   have hU1_l := hU1.lt; have hU1_0 := hU1.cell 0; have hU1_1 := hU1.cell 1; simp at hU1_0 hU1_1
   go_wp2_with fail
   clear hU1_l hU1_0 hU1_1
   go_loopg [36] v2.length (fun gj jv wq => ∃ i : Nat, jv = .int .i64 i ∧ i ≤ v2.length ∧ Hid (gj = v2.length - i) ∧ GBox enc2 ok2 wq nC (cM (A ++ evW g p v2 i)) ∧ MBox wq bm (sesM p) ∧ Box wq n3 103 #[.string v1, .slice v3 v2.length v4] ∧ Below w.heap.size w wq)
   case atStart => exact ⟨0, rfl, by omega, rfl, hG0, hM1, hU1, hb1⟩
   case round =>
    clear hG0 hM1 hU1 hb1
    obtain ⟨i, rfl, hi, hgi, hG, hM, hU, hb⟩ := hrel
    by_cases hil : i < v2.length
    ·
     obtain ⟨tb, toff, ha4, u0⟩ := (HWP.out _ hb).str hil
     have Hew := Lib.hid (evW_succ (g := g) (p := p) hil)
     have hel2 := HEW.out i (by omega)
     have hak : (v2[i]).size ≤ 1000 := HUZ.out _ (List.getElem_mem hil)
     have Ha4 := Lib.hid ha4
     rw [ha4]
     clear ha4
     obtain ⟨da, dc, hsl, hdr⟩ := dropS v3 v2 v4 (i + 1) (by omega) hcap
     have HDR := Lib.hid hdr
     have HDZ : Hid (∀ y ∈ v2.drop (i + 1), y.size ≤ 1000) := fun y hy => HUZ.out y (List.mem_of_mem_drop hy)
     have hdl : (v2.drop (i + 1)).length ≤ 1000 := by rw [List.length_drop]; omega
     rw [show ((i + 1 : Nat) : Int) = (i : Int) + 1 from rfl] at hsl
     have hel3 : (evW g p v2 i).length ≤ 1000000 := by
      have h9 : v2.length * i ≤ 1000 * 1000 := Nat.mul_le_mul huw (by omega)
      omega
     clear hdr hel2
     generalize v2[i] = a at *
     generalize v2.drop (i + 1) = ds at *
     generalize evW g p v2 i = B at *
     have hlk := lookSes hM a
     cases hin : inP p a
     ·
      rw [hin] at hlk
      have Hew2 : Hid (evW g p v2 (i + 1) = B) := by show _ = _; rw [Hew.out, evR_none hin, List.append_nil]
      generalize sesAtV p a = sv at *
      go_wp2_with fail
      rw [← Ha4.out]
      go_roundg (v2.length - (i + 1))
      case measure => have := hgi.out; omega
      case rel => exact ⟨i + 1, by go_num, by omega, rfl, by rw [Hew2.out]; exact hG, hM, hU, hb⟩
     ·
      obtain ⟨xi, hxi, hxa⟩ := inP_at hin
      obtain ⟨hsx, hpx⟩ := HSN.out xi hxi a hxa
      rw [hin, HSA.out a hin, hpx] at hlk
      have HIa := Lib.hid hin
      have HPX := Lib.hid hpx
      have HSX := Lib.hid hsx
      clear hxa hpx hsx hin
      go_upto_region 11 with (fail)
      rw [← Ha4.out]
      have hU_l := hU.lt; have hU_0 := hU.cell 0; have hU_1 := hU.cell 1; simp at hU_0 hU_1
      go_wp2_with fail
      clear hU_l hU_0 hU_1
      clear hlk hsl u0
      have hG0 : GBox enc2 ok2 wr nC (cM (A ++ (B ++ evR g p a ds 0))) := by show GBox _ _ _ _ (cM (A ++ (B ++ []))); rw [List.append_nil]; exact hG
      clear hG
      go_loopg [55] ds.length (fun gm mv wz => ∃ j : Nat, mv = .int .i64 j ∧ j ≤ ds.length ∧ Hid (gm = ds.length - j) ∧ GBox enc2 ok2 wz nC (cM (A ++ (B ++ evR g p a ds j))) ∧ MBox wz bm (sesM p) ∧ Box wz n3 103 #[.string v1, .slice v3 v2.length v4] ∧ Below w.heap.size w wz)
      case atStart => exact ⟨0, rfl, by omega, rfl, hG0, hM, hU, hb⟩
      case round =>
       clear hG0 hM hU hb
       obtain ⟨j, rfl, hj, hgj, hG, hM, hU, hb⟩ := hrel
       by_cases hjl : j < ds.length
       ·
        obtain ⟨tc, tcoff, ha5, u0⟩ := (HDR.out _ (HWP.out _ hb)).str hjl
        have Hev1 := Lib.hid (evR_succ (g := g) (p := p) (a := a) hjl)
        have hel4 := evR_len g p a ds j
        have hyk : (ds[j]).size ≤ 1000 := HDZ.out _ (List.getElem_mem hjl)
        have Ha5 := Lib.hid ha5
        rw [ha5]
        clear ha5
        generalize ds[j] = y at *
        generalize evR g p a ds j = C at *
        have hlk := lookSes hM y
        obtain ⟨L, hL⟩ : ∃ L, A ++ (B ++ C) = L := ⟨_, rfl⟩
        have hLl : L.length ≤ 2000000000 := by rw [← hL, List.length_append, List.length_append]; omega
        rw [hL] at hG
        have HL := Lib.hid hL
        clear hL
        have Hno : Hid (clB g p a y = false → A ++ (B ++ evR g p a ds (j + 1)) = L) := fun h => by rw [Hev1.out, h, if_neg (by decide), List.append_nil]; exact HL.out
        have Hyes : Hid (clB g p a y = true → A ++ (B ++ evR g p a ds (j + 1)) = L ++ [(a, y)]) := fun h => by rw [Hev1.out, h, if_pos rfl, ← List.append_assoc B, ← List.append_assoc A, HL.out]
        clear Hev1 hel4 HL
        cases hiy : inP p y
        ·
         rw [hiy] at hlk
         have Her := Lib.hid (Hno.out (by unfold clB; rw [hiy, Bool.false_and, Bool.and_false]))
         generalize sesAtV p y = sv at *
         go_upto_region 15 with (fail)
         refine wp_region_held_drew (S := (fun wx => Below wr.heap.size wr wx)) (by kernel_rfl) ?hS (fun hHeld => ?_)
         case hS => exact (Below.refl _ _).drew
         refine rt 0 (some 65) ?_
         refine rt 1 (some 66) ?_
         refine rs 2 (some 67) ?_
         refine rs 3 (some 68) ?_
         refine rs 4 (some 69) ?_
         refine rt 5 (some 70) ?_
         refine rt 6 (some 71) ?_
         refine rs 7 (some 72) ?_
         refine rs 8 (some 73) ?_
         refine rs 9 (some 74) ?_
         refine rs 10 (some 75) ?_
         refine rs 11 (some 76) ?_
         refine rs 12 (some 77) ?_
         refine rs 13 (some 78) ?_
         refine rs 14 (some 79) ?_
         refine rs 15 (some 80) ?_
         refine rcall (i := 16) (d := (some 81)) (by kernel_rfl) rfl (by kernel_rfl) (fun K hK => ?_)
         rw [if_neg (by rw [show Region.wanted _ _ = false by kernel_rfl]; decide)]
         refine hK.out _ _ ?hS (fun hHeld => ?_)
         case hS => exact hHeld
         clear hK K
         simp only [Act.put, lsetA, lsetZ, lsetS]
         refine rt 17 (some 82) ?_
         refine wpAnyH_done (by kernel_rfl) ?_ _
         have hb6 := below_next hb hHeld
         have hG6 := hG.below hHeld
         have hM6 := hM.below hHeld
         have hU6 := hU.below hHeld
         clear hHeld hb hG hM hU hlk u0
         go_wp2_with fail
         have hbZ := hb6
         rw [← Ha5.out]
         go_roundg (ds.length - (j + 1))
         case measure => have := hgj.out; omega
         case rel => exact ⟨j + 1, by go_num, by omega, rfl, by rw [Her.out]; exact hG6, hM6, hU6, hb6⟩
        ·
         obtain ⟨yi, hyi, hya⟩ := inP_at hiy
         obtain ⟨hsy, hpy⟩ := HSN.out yi hyi y hya
         rw [hiy, HSA.out y hiy, hpy] at hlk
         have Hcl : Hid (clB g p a y = (!decide ((xi : Int) = (yi : Int)) && meetsB g p[xi] p[yi])) := by show _ = _; unfold clB; rw [HIa.out, hiy, HPX.out, hpy, HSX.out, hsy, Bool.true_and, Bool.true_and]
         clear hya hsy hpy hiy
         by_cases hxy : xi = yi
         ·
          have hq : ((xi : Int) != (yi : Int)) = false := by simp; omega
          have Her := Lib.hid (Hno.out (by rw [Hcl.out, decide_eq_true (by omega)]; rfl))
          clear Hcl hxy
          go_upto_region 15 with (fail)
          refine wp_region_held_drew (S := (fun wx => Below wr.heap.size wr wx)) (by kernel_rfl) ?hS (fun hHeld => ?_)
          case hS => exact (Below.refl _ _).drew
          refine rt 0 (some 65) ?_
          refine rt 1 (some 66) ?_
          refine rt 2 (some 67) ?_
          refine rt 3 (some 68) ?_
          refine rt 4 (some 69) ?_
          (try rw [hq])
          refine rt 5 (some 70) ?_
          refine rt 6 (some 71) ?_
          refine rs 7 (some 72) ?_
          refine rs 8 (some 73) ?_
          refine rs 9 (some 74) ?_
          refine rs 10 (some 75) ?_
          refine rs 11 (some 76) ?_
          refine rs 12 (some 77) ?_
          refine rs 13 (some 78) ?_
          refine rs 14 (some 79) ?_
          refine rs 15 (some 80) ?_
          refine rcall (i := 16) (d := (some 81)) (by kernel_rfl) rfl (by kernel_rfl) (fun K hK => ?_)
          rw [if_neg (by rw [show Region.wanted _ _ = false by kernel_rfl]; decide)]
          refine hK.out _ _ ?hS (fun hHeld => ?_)
          case hS => exact hHeld
          clear hK K
          simp only [Act.put, lsetA, lsetZ, lsetS]
          refine rt 17 (some 82) ?_
          refine wpAnyH_done (by kernel_rfl) ?_ _
          have hb6 := below_next hb hHeld
          have hG6 := hG.below hHeld
          have hM6 := hM.below hHeld
          have hU6 := hU.below hHeld
          clear hHeld hb hG hM hU hlk u0
          go_wp2_with fail
          have hbZ := hb6
          rw [← Ha5.out]
          go_roundg (ds.length - (j + 1))
          case measure => have := hgj.out; omega
          case rel => exact ⟨j + 1, by go_num, by omega, rfl, by rw [Her.out]; exact hG6, hM6, hU6, hb6⟩
         ·
          have hq : ((xi : Int) != (yi : Int)) = true := by simp; omega
          rw [decide_eq_false (by omega : ¬ (xi : Int) = (yi : Int)), Bool.not_false, Bool.true_and] at Hcl
          clear hxy
          obtain ⟨xb, xoff, hxa, e0, e1, e2⟩ := (HP.out _ hb).list.sesC hxi
          obtain ⟨yb, yoff, hya, f0, f1, f2⟩ := (HP.out _ hb).list.sesC hyi
          obtain ⟨rfl, rfl⟩ : xb = yb ∧ xoff = yoff := by rw [hxa] at hya; cases hya; exact ⟨rfl, rfl⟩
          have HBx := Lib.hid (fun W (h : Below w.heap.size w W) => HBS.out p[xi] p[yi] W h (HSL.out _ (List.getElem_mem hxi)) (HSL.out _ (List.getElem_mem hyi)))
          generalize meetsB g p[xi] p[yi] = mb at *
          clear HSX
          generalize p[xi] = sx at *
          generalize p[yi] = sy at *
          obtain ⟨x1, x2, x3, x4, x5⟩ := sx
          obtain ⟨y1, y2, y3, y4, y5⟩ := sy
          unfold Ses.agg at HBx
          simp only at e0 e1 e2 f0 f1 f2 HBx
          have hx1 : (0 : Int) ≤ (xi : Int) := by omega
          have hx2 : (xi : Int) < (p.length : Int) := by omega
          have hy1 : (0 : Int) ≤ (yi : Int) := by omega
          have hy2 : (yi : Int) < (p.length : Int) := by omega
          have Hxa := Lib.hid hxa
          clear hya
          go_upto_region 15 with (fail)
          rw [hxa]
          clear hxa
          refine wp_region_held_drew (S := (fun wx => wx.cell? ⟨xb, xoff + xi * 3, none⟩ = some (.string x1) ∧ wx.cell? ⟨xb, xoff + xi * 3 + 1, none⟩ = some (.string x2) ∧ wx.cell? ⟨xb, xoff + xi * 3 + 2, none⟩ = some (.slice x4 x3.length x5) ∧ wx.cell? ⟨xb, xoff + yi * 3, none⟩ = some (.string y1) ∧ wx.cell? ⟨xb, xoff + yi * 3 + 1, none⟩ = some (.string y2) ∧ wx.cell? ⟨xb, xoff + yi * 3 + 2, none⟩ = some (.slice y4 y3.length y5) ∧ Below wr.heap.size wr wx)) (by kernel_rfl) ?hS (fun hHeld => ?_)
          case hS => exact ⟨e0, e1, e2, f0, f1, f2, (Below.refl _ _).drew⟩
          refine rt 0 (some 65) ?_
          refine rt 1 (some 66) ?_
          refine rt 2 (some 67) ?_
          refine rt 3 (some 68) ?_
          refine rt 4 (some 69) ?_
          (try rw [hq])
          refine rt 5 (some 70) ?_
          refine rt 6 (some 71) ?_
          refine rt 7 (some 72) ?_
          refine rt 8 (some 73) ?_
          refine rt 9 (some 74) ?_
          refine rt 10 (some 75) ?_
          refine rt 11 (some 76) ?_
          refine rt 12 (some 77) ?_
          refine rt 13 (some 78) ?_
          refine rt 14 (some 79) ?_
          refine rt 15 (some 80) ?_
          refine rcall (i := 16) (d := (some 81)) (by kernel_rfl) rfl (by kernel_rfl) (fun K hK => ?_)
          rw [if_pos (by kernel_rfl)]; go_simp; go_at_call 98; refine (HBx.out _ (below_next hb hHeld.2.2.2.2.2.2)).mono ?_; rintro e w6 ⟨rfl, hb6⟩
          refine hK.out _ _ ?hS (fun hHeld => ?_)
          case hS => exact ⟨cell_later hb6 hHeld.1, cell_later hb6 hHeld.2.1, cell_later hb6 hHeld.2.2.1, cell_later hb6 hHeld.2.2.2.1, cell_later hb6 hHeld.2.2.2.2.1, cell_later hb6 hHeld.2.2.2.2.2.1, below_next hHeld.2.2.2.2.2.2 hb6⟩
          clear hK K
          simp only [Act.put, lsetA, lsetZ, lsetS]
          refine rt 17 (some 82) ?_
          refine wpAnyH_done (by kernel_rfl) ?_ _
          have hb7 := below_next hb hHeld.2.2.2.2.2.2
          have hG7 := hG.below hHeld.2.2.2.2.2.2
          have hM7 := hM.below hHeld.2.2.2.2.2.2
          have hU7 := hU.below hHeld.2.2.2.2.2.2
          clear hHeld hb hG hM hU hlk u0 e0 e1 e2 f0 f1 f2 hb6
          rw [← Hxa.out]
          cases mb
          ·
           have Her := Lib.hid (Hno.out Hcl.out)
           go_wp2_with fail
           have hbZ := hb7
           rw [← Ha5.out]
           go_roundg (ds.length - (j + 1))
           case measure => have := hgj.out; omega
           case rel => exact ⟨j + 1, by go_num, by omega, rfl, by rw [Her.out]; exact hG7, hM7, hU7, hb7⟩
          ·
           have Her := Lib.hid (Hyes.out Hcl.out)
           have hok : ok2 (a, y) := ⟨by show a.size ≤ 1000000; omega, by show y.size ≤ 1000000; omega⟩
           have hcnt : cntT L (a, y) ≤ 2000000000 := Nat.le_trans List.countP_le_length hLl
           have hgl : glooked (cM L) (a, y) (.int .i64 0) false = .int .i64 (cntT L (a, y) : Nat) := by
            unfold glooked
            rw [if_neg (by decide), cM_get]
            by_cases h0 : cntT L (a, y) = 0
            ·
             rw [if_pos h0, h0]; rfl
            ·
             rw [if_neg h0]; rfl
           have hput : gput (cM L) (a, y) (.int .i64 ((cntT L (a, y) : Nat) + 1)) = cM (L ++ [(a, y)]) := by
            rw [cM_snoc]
            unfold cStep
            congr 2
            have h1 : (gget (cM L) (a, y)).getD (.int .i64 0) = .int .i64 (cntT L (a, y) : Nat) := by
             unfold glooked at hgl
             rwa [if_neg (by decide)] at hgl
            rw [h1]; rfl
           have HPT := Lib.hid hput
           have hw : IntKind.i64.wrap (((cntT L (a, y) : Nat) : Int) + 1) = ((cntT L (a, y) : Nat) : Int) + 1 := IntWalk.i64_in _ (by omega)
           generalize cntT L (a, y) = cn at *
           generalize cM L = ml at *
           clear hput hcnt
           have HLK : Hid (∀ W l, GBox enc2 ok2 W nC l → glooked l (a, y) (.int .i64 0) false = .int .i64 (cn : Nat) → (Instr.lookup 186 (.map (some nC)) (.agg #[.string a, .string y]) false).run Tryz.prog W = .ok (.int .i64 (cn : Nat)) W) := fun W l hW hgW => by
            have h1 := GBox.look hW keysA Tryz.underlying186 (.int .i64 0) Tryz.zeroValue3 (a, y) hok false
            rw [hgW] at h1
            exact h1
           go_upto_region 16 with (fail)
           refine wp_regionF (S := (fun wx => (Instr.lookup 186 (.map (some nC)) (.agg #[.string a, .string y]) false).run Tryz.prog wx = .ok (.int .i64 (cn : Nat)) wx)) 8 (by kernel_rfl) ?hS (fun hHeld => ?_)
           case hS => exact HLK.out _ ml hG7.drew hgl
           refine rtakeF (i := 0) (d := (some 83)) (v := ?_) (n := 40) rfl (by kernel_rfl) (by kernel_rfl) (by kernel_rfl) (by kernel_rfl) (by kernel_rfl) (by kernel_rfl) (fun _ _ _ h => h) (by kernel_rfl) (by assumption) ?_ ?_
           rotate_left 1
           ·
            (intro wI hSI; (try dsimp only at hSI); go_simp; (try with_reducible rfl))
           simp only [Act.put, lsetA, lsetZ, lsetS]
           refine rtakeF (i := 1) (d := (some 84)) (v := ?_) (n := 40) rfl (by kernel_rfl) (by kernel_rfl) (by kernel_rfl) (by kernel_rfl) (by kernel_rfl) (by kernel_rfl) (fun _ _ _ h => h) (by kernel_rfl) (by assumption) ?_ ?_
           rotate_left 1
           ·
            (intro wI hSI; (try dsimp only at hSI); go_simp; (try with_reducible rfl))
           simp only [Act.put, lsetA, lsetZ, lsetS]
           refine rtakeF (i := 2) (d := (some 85)) (v := ?_) (n := 40) rfl (by kernel_rfl) (by kernel_rfl) (by kernel_rfl) (by kernel_rfl) (by kernel_rfl) (by kernel_rfl) (fun _ _ _ h => h) (by kernel_rfl) (by assumption) ?_ ?_
           rotate_left 1
           ·
            (intro wI hSI; (try dsimp only at hSI); go_simp; (try with_reducible rfl))
           simp only [Act.put, lsetA, lsetZ, lsetS]
           refine rtakeF (i := 3) (d := (some 86)) (v := ?_) (n := 40) rfl (by kernel_rfl) (by kernel_rfl) (by kernel_rfl) (by kernel_rfl) (by kernel_rfl) (by kernel_rfl) (fun _ _ _ h => h) (by kernel_rfl) (by assumption) ?_ ?_
           rotate_left 1
           ·
            (intro wI hSI; (try dsimp only at hSI); go_simp; (try with_reducible rfl))
           simp only [Act.put, lsetA, lsetZ, lsetS]
           refine rtakeF (i := 4) (d := (some 87)) (v := ?_) (n := 40) rfl (by kernel_rfl) (by kernel_rfl) (by kernel_rfl) (by kernel_rfl) (by kernel_rfl) (by kernel_rfl) (fun _ _ _ h => h) (by kernel_rfl) (by assumption) ?_ ?_
           rotate_left 1
           ·
            (intro wI hSI; (try dsimp only at hSI); go_simp; (try with_reducible rfl))
           simp only [Act.put, lsetA, lsetZ, lsetS]
           refine rtakeF (i := 5) (d := (some 88)) (v := ?_) (n := 40) rfl (by kernel_rfl) (by kernel_rfl) (by kernel_rfl) (by kernel_rfl) (by kernel_rfl) (by kernel_rfl) (fun _ _ _ h => h) (by kernel_rfl) (by assumption) ?_ ?_
           rotate_left 1
           ·
            (intro wI hSI; (try dsimp only at hSI); go_simp; (try with_reducible rfl))
           simp only [Act.put, lsetA, lsetZ, lsetS]
           refine rcallF (i := 6) (d := (some 89)) (by kernel_rfl) rfl (by kernel_rfl) (fun K hK => ?_)
           refine step_mapEntry_gbox (by rfl) _ _ 186 (by rfl) 187 3 Tryz.underlying186 keysA (.int .i64 0) Tryz.zeroValue3 nC ml (by rfl) hG7.drew (a, y) hok (by rfl) ?_; intro v0 st wE l1 hGE hlE hgE hsE hstE
           refine hK.out _ _ (.inr ?hS) (fun hHeld0 => ?_)
           case hS => exact HLK.out wE l1 hGE (hlE.trans hgl)
           clear hK K
           have hHeld := hHeld0.resolve_left (by decide)
           simp only [Act.put, lsetA, lsetZ, lsetS]
           refine rtakeF (i := 7) (d := (some 90)) (v := ?_) (n := 40) rfl (by kernel_rfl) (by kernel_rfl) (by kernel_rfl) (by kernel_rfl) (by kernel_rfl) (by kernel_rfl) (fun _ _ _ h => h) (by kernel_rfl) (by assumption) ?_ ?_
           rotate_left 1
           ·
            (intro wI hSI; (try dsimp only at hSI); go_simp; (try with_reducible rfl))
           simp only [Act.put, lsetA, lsetZ, lsetS]
           refine rcallF (i := 8) (d := none) (by kernel_rfl) rfl (by kernel_rfl) (fun K hK => ?_)
           refine step_entryStore (by rfl) _ _ _ 186 (by rfl) nC st (.int .i64 ((cn : Int) + 1)) (by rfl) (by rfl) (by rfl) (fun w3 => GBox enc2 ok2 w3 nC (gput ml (a, y) (.int .i64 ((cn : Int) + 1))) ∧ wE.grownBy w3 (some nC) ∧ w3.heap.size = wE.heap.size) (hstE wE _ rfl) ?_; rintro w9 ⟨hG9, hg9, hs9⟩
           refine hK.out undef _ (.inl rfl) (fun _ => ?_)
           clear hK K
           simp only [Act.put, lsetA, lsetZ, lsetS]
           refine wpAnyF_done (by kernel_rfl) ?_ _
           have hbE := hb7.drew.grown hgE (by have := hb7.size; exact this) (fun j hj => by have := Option.some.inj hj; omega)
           have hb9 := hbE.grown hg9 hbE.size (fun j hj => by have := Option.some.inj hj; omega)
           have hM9 := (hM7.drew.grown hgE (fun e => by have := Option.some.inj e; omega)).grown hg9 (fun e => by have := Option.some.inj e; omega)
           have hU9 := (hU7.drew.grown hgE (fun e => by have := Option.some.inj e; omega)).grown hg9 (fun e => by have := Option.some.inj e; omega)
           rw [HPT.out] at hG9
           clear hHeld hb7 hM7 hG7 hU7 hbE hgE hsE hstE hlE hGE hg9 hs9 hgl hok hw
           go_wp2_with fail
           have hbZ := hb9
           rw [← Ha5.out]
           go_roundg (ds.length - (j + 1))
           case measure => have := hgj.out; omega
           case rel => exact ⟨j + 1, by go_num, by omega, rfl, by rw [Her.out]; exact hG9, hM9, hU9, hb9⟩
       ·
        obtain rfl : j = ds.length := by omega
        rw [← Hew.out] at hG
        go_wp2_with fail
        go_roundg (v2.length - (i + 1))
        case measure => have := hgi.out; omega
        case rel => exact ⟨i + 1, by go_num, by omega, rfl, hG, hM, hU, hb⟩
    ·
     obtain rfl : i = v2.length := by omega
     rw [← Hev.out] at hG
     go_wp2_with fail
     rw [← Hu.out]
     go_roundg (g.wishes.length - (n + 1))
     case measure => have := hgn.out; omega
     case rel => exact ⟨n + 1, by go_num, by omega, rfl, hG, hM, hb⟩
  ·
   obtain rfl : n = g.wishes.length := by omega
   have hcl : (cM (evT g p g.wishes.length)).length ≤ 100000000 := Nat.le_trans (cM_len _) (Nat.le_trans (HEL.out _ (Nat.le_refl _)) (by omega))
   have HCI := Lib.hid (cM_int (evT g p g.wishes.length))
   generalize cM (evT g p g.wishes.length) = ml at *
   go_wp2_with ((refine wpList_range_gbox rfl _ 186 rfl 187 3 Tryz.underlying186 nC ml rfl hG ?_; intro o' hI))
   go_frame
   have hb6 := hb.alloc hb.size o'
   have hz6 : wr.heap.size < (wr.alloc o').heap.size := by simp
   have hGl := hG.lt
   have hz5 := hb.size
   clear hG hM hb
   generalize wr.alloc o' = w6 at *
   generalize wr.heap.size = ri at *
   go_loopg [17] ml.length (fun gl v' wq => ∃ (left : List (Two × Value)) (v : Value) (acc : List Clh), v = v' ∧ Hid (gl = left.length) ∧ JBox enc2 ok2 wq ri nC ml left ∧ Hid ((acc ++ left.map toC).Perm (ml.map toC)) ∧ Hid (∀ q ∈ left, q ∈ ml) ∧ acc.length + left.length = ml.length ∧ Own (ri + 1) 66 wq v acc ∧ Below w.heap.size w wq ∧ ri < wq.heap.size)
   case atStart => exact ⟨ml, _, [], rfl, rfl, hI, List.Perm.refl _, (fun q hq => hq), by simp, Own.nil _ _ _, hb6, hz6⟩
   case round =>
    clear hI hb6 hz6
    obtain ⟨left, v, acc, rfl, hgl, hI, hpm, hsub, hlen, hown, hb, hz⟩ := hrel
    go_wp2_with ((refine wpList_next_gbox rfl _ rfl ri nC ml left rfl hI ?_ ?_))
    ·
     intro hnil
     have hp2 : acc.Perm (ml.map toC) := by
      have h1 := hpm.out
      rw [hnil, List.map_nil, List.append_nil] at h1
      exact h1
     have HS : Hid (sortClh acc = sortClh R) := by show _ = _; rw [HR.out]; exact sortClh_perm hp2
     clear hp2 hpm hsub hgl hnil hI
     go_wp2_with fail
     refine (HSRT.out _ v acc _ hown (by omega)).mono ?_
     rintro e w9 ⟨rfl, hown9, hk9⟩
     have hb9 := belowKp hb hk9 (fun j hj => by have := (hown.lt j hj).1; omega) hb.size
     rw [HS.out] at hown9
     go_wp2_with fail
     go_ret
     exact ⟨_, rfl, hown9.mono (by omega), hb9⟩
    ·
     intro p0 k1 k2 vv q w' hleft hI2 hent hg hsz
     have hin : ((k1, k2), vv) ∈ ml := hsub.out _ (by rw [hleft]; simp)
     obtain ⟨nv, hnv⟩ := HCI.out _ hin
     obtain rfl : vv = .int .i64 nv := hnv
     have Hsub2 : Hid (∀ q' ∈ p0 ++ q, q' ∈ ml) := fun q' hq' => hsub.out q' (by rw [hleft]; simp only [List.mem_append, List.mem_cons] at hq' ⊢; exact hq'.elim .inl (fun h => .inr (.inr h)))
     have hlen2 : (p0 ++ q).length < left.length := by rw [hleft]; simp
     have hlen3 : (acc ++ [(k1, k2, nv)]).length + (p0 ++ q).length = ml.length := by
      rw [← hlen, hleft]; simp only [List.length_append, List.length_cons, List.length_nil]; omega
     have Hpm2 : Hid (((acc ++ [((k1, k2, nv) : Clh)]) ++ (p0 ++ q).map toC).Perm (ml.map toC)) := by
      refine List.Perm.trans ?_ hpm.out
      rw [hleft, List.map_append, List.map_append, List.map_cons, List.append_assoc]
      refine List.Perm.append_left _ ?_
      exact (List.perm_middle (a := toC ((k1, k2), .int .i64 nv)) (l₁ := p0.map toC) (l₂ := q.map toC)).symm
     have hIl := hI.lt
     have hb2 : Below w.heap.size w w' := hb.grown hg hb.size (by rintro j hj; cases hj; omega)
     have hown2 := hown.same (w' := w') (fun b hb9 => hg.block b (hown.lt b hb9).2 (fun e => by have := Option.some.inj e; have := (hown.lt b hb9).1; omega))
     have hent2 : (Instr.entry (.pointer (some ⟨ri, 0, none⟩))).run Tryz.prog w' = .ok (.tuple #[.agg #[.string k1, .string k2], .int .i64 nv]) w' := hent
     have hz2 : ri < w'.heap.size := by omega
     have hal : acc.length ≤ 100000000 := by omega
     clear hsub hpm hin hI hb hg hleft hent hown hlen hsz
     go_upto_region 24 with (fail)
     have hK := Box.new w' 187 #[.string k1, .string k2]
     have hI3 := hI2.alloc (.cells #[.string k1, .string k2] 187)
     have hown3 := hown2.alloc (.cells #[.string k1, .string k2] 187)
     have hb3 := hb2.alloc hb2.size (.cells #[.string k1, .string k2] 187)
     have hz3 : ri < (w'.alloc (.cells #[.string k1, .string k2] 187)).heap.size := by simp; omega
     clear hI2 hown2 hb2 hent2
     generalize w'.alloc (.cells #[.string k1, .string k2] 187) = w8 at *
     generalize w'.heap.size = n8 at *
     have hown4 := hown3.alloc (.cells #[.string k1, .string k2, .int .i64 nv] 66)
     have hbo := Box.new w8 66 #[.string k1, .string k2, .int .i64 nv]
     have hb4 := hb3.alloc hb3.size (.cells #[.string k1, .string k2, .int .i64 nv] 66)
     have hI4 := hI3.alloc (.cells #[.string k1, .string k2, .int .i64 nv] 66)
     have hol := hown4.lt
     have hbz := hb3.size
     have hIl3 := hI3.lt
     have hK_l := hK.lt; have hK_0 := hK.cell 0; have hK_1 := hK.cell 1; simp at hK_0 hK_1
     go_wp2_with (at_builtin; refine wpList_append_lie (α := Clh) rfl _ _ 56 rfl 66 40 (.agg #[.string ⟨#[]⟩, .string ⟨#[]⟩, .int .i64 0]) Tryz.underlying56 infoClh rfl _ acc rfl hown4 (k1, k2, nv) _ rfl hbo (by omega) (by omega) (by simp; omega) ?_; intro g9 cap9 w9 hown9 hg9 hat9; have hb9 := hb4.grown hg9 (by have := hb4.size; omega) (fun j hj => by have := (hol j hj).1; omega); have hI9 : JBox enc2 ok2 w9 ri nC ml (p0 ++ q) := hI4.same (hg9.block _ hI4.lt.1 (fun e => by have := (hol _ e.symm).1; omega)) (hg9.block _ hI4.lt.2 (fun e => by have := (hol _ e.symm).1; omega)); have hz10 : ri < w9.heap.size := (by have h1 := ((Kp.refl (fun j => v.ownBlock = some j) _).grown hg9 (fun j hj => .inl hj)).size; simp at h1; omega); clear hg9 hat9 hb4 hI4 hbo hown4 hol)
     (try go_wp2_with fail)
     go_roundg (p0 ++ q).length
     case measure => have := hgl.out; omega
     case rel => exact ⟨p0 ++ q, _, acc ++ [(k1, k2, nv)], rfl, rfl, hI9, Hpm2.out, Hsub2.out, hlen3, hown9, hb9, hz10⟩
/-- How many want to hear both. -/
def wantsN (g : Grd) (n : Nat) (a b : ByteArray) : Nat := (g.wishes.take n).countP (fun x => inB x.papers a && inB x.papers b)
theorem wantsN_succ {g : Grd} {n : Nat} (a b : ByteArray) (h : n < g.wishes.length) : wantsN g (n + 1) a b = wantsN g n a b + if (inB g.wishes[n].papers a && inB g.wishes[n].papers b) = true then 1 else 0 := by
 unfold wantsN
 rw [List.take_succ_eq_append_getElem h, List.countP_append, List.countP_cons, List.countP_nil, Nat.zero_add]
theorem wantsN_bd (g : Grd) (n : Nat) (a b : ByteArray) : wantsN g n a b ≤ g.wishes.length := by
 unfold wantsN
 have h := List.countP_le_length (p := fun x : Wsh => inB x.papers a && inB x.papers b) (l := g.wishes.take n)
 rw [List.length_take] at h
 omega
/-- The papers beside a paper. -/
def besX (g : Grd) (p : List Ses) (a : ByteArray) : List ByteArray := besTo g p (placeI p a).toNat (sesN p a) p.length
def refB (g : Grd) (p : List Ses) (a b : ByteArray) : Bool := !leB b a && (inP p a && inB (besX g p a) b)
def refS (g : Grd) (p : List Ses) (a b : ByteArray) : List Clh := if refB g p a b = true then (if 0 < wantsN g g.wishes.length a b then [(a, b, (wantsN g g.wishes.length a b : Nat))] else []) else []
def innTo (g : Grd) (p : List Ses) (a : ByteArray) : Nat → List Clh
 | 0 => []
 | j + 1 => innTo g p a j ++ (match g.talks[j]? with
  | none => []
  | some t => refS g p a t.paper)
theorem innTo_succ {g : Grd} {p : List Ses} {a : ByteArray} {j : Nat} (h : j < g.talks.length) : innTo g p a (j + 1) = innTo g p a j ++ refS g p a g.talks[j].paper := by
 show innTo g p a j ++ (match g.talks[j]? with | none => [] | some t => refS g p a t.paper) = _
 rw [List.getElem?_eq_getElem h]
theorem refS_len (g : Grd) (p : List Ses) (a b : ByteArray) : (refS g p a b).length ≤ 1 := by
 unfold refS
 split
 ·
  split <;> simp
 ·
  simp
theorem innTo_len (g : Grd) (p : List Ses) (a : ByteArray) : ∀ j, j ≤ g.talks.length → (innTo g p a j).length ≤ j
 | 0, _ => Nat.le_refl _
 | j + 1, h => by
  rw [innTo_succ (by omega : j < g.talks.length), List.length_append]
  have h1 := innTo_len g p a j (by omega)
  have h2 := refS_len g p a (g.talks[j]'(by omega)).paper
  omega
def clTo (g : Grd) (p : List Ses) : Nat → List Clh
 | 0 => []
 | k + 1 => clTo g p k ++ (match g.talks[k]? with
  | none => []
  | some t => innTo g p t.paper g.talks.length)
theorem clTo_succ {g : Grd} {p : List Ses} {k : Nat} (h : k < g.talks.length) : clTo g p (k + 1) = clTo g p k ++ innTo g p g.talks[k].paper g.talks.length := by
 show clTo g p k ++ (match g.talks[k]? with | none => [] | some t => innTo g p t.paper g.talks.length) = _
 rw [List.getElem?_eq_getElem h]
def clR (g : Grd) (p : List Ses) : List Clh := clTo g p g.talks.length
theorem clTo_len (g : Grd) (p : List Ses) : ∀ k, k ≤ g.talks.length → (clTo g p k).length ≤ g.talks.length * k
 | 0, _ => Nat.le_refl _
 | k + 1, h => by
  rw [clTo_succ (by omega : k < g.talks.length), List.length_append, Nat.mul_succ]
  have h1 := clTo_len g p k (by omega)
  have h2 := innTo_len g p (g.talks[k]'(by omega)).paper _ (Nat.le_refl _)
  omega
theorem inB_keys (l : List ByteArray) (x : ByteArray) : inB (keysS l) x = inB l x := by
 rw [Bool.eq_iff_iff, inB_iff, inB_iff, keysS_mem]
theorem leB_not (a b : ByteArray) : Op.bytesLess b.toList a.toList = !leB a b := by
 unfold leB
 rw [bl_lt, bl_lt, Bool.eq_iff_iff]
 simp only [Bool.not_eq_true', Bool.or_eq_false_iff, decide_eq_true_eq, decide_eq_false_iff_not, beq_eq_false_iff_ne, ne_eq]
 constructor
 ·
  intro h
  exact ⟨fun h2 => List.lt_irrefl _ (List.lt_trans h h2), fun e => by rw [e] at h; exact List.lt_irrefl _ h⟩
 ·
  intro h
  exact Std.lt_of_le_of_ne (List.not_lt.1 h.1) (Ne.symm h.2)
set_option maxRecDepth 100000 in
set_option maxHeartbeats 16000000 in
theorem clashesOf_any (g : Grd) (p : List Ses) (pa : Option Addr) (pc : Nat) (w : World) (hg : GRd w g) (hz : GSm g) (hp : PRg w pa p) (hpl : p.length ≤ 1000) (hpo : ∀ s ∈ p, SesOk s) (hfm : firstErr (sesE g p) p.length = 0) :
  Calls Tryz.prog 28 #[g.agg, .slice pa p.length pc] w (GivesOwn 66 (sortClh (clR g p)) w) := by
 have HG := Lib.hid (fun W (h : Below w.heap.size w W) => hg.below h)
 have HPL := Lib.hid (fun x W (h : Below w.heap.size w W) => placed_any p pa pc x W (hp.below h) (by omega) (fun s hs => (hpo s hs).2.2.1))
 have HBE : Hid (∀ a, inP p a = true → ∃ i : Nat, placeI p a = (i : Nat) ∧ (besX g p a).length ≤ 1000000 ∧ ∀ W, Below w.heap.size w W → Calls Tryz.prog 46 #[g.agg, .slice pa p.length pc, .string a] W (GivesOwn 9 (keysS (besX g p a)) W)) := fun a ha => by
  obtain ⟨i, hi, h1⟩ := inP_at ha
  obtain ⟨h2, h3⟩ := sesN_at hfm hi h1
  have h4 : besX g p a = besTo g p i p[i] p.length := by unfold besX; rw [h2, h3, Int.toNat_natCast]
  refine ⟨i, h3, ?_, fun W h => ?_⟩
  ·
   rw [h4]
   have := besTo_len (g := g) (i := i) (y := p[i]) (fun s hs => (hpo s hs).2.2.1) p.length (Nat.le_refl _)
   omega
  ·
   rw [h4]
   exact besideOf_any g p pa pc a i hi W (hg.below h) hz (hp.below h) hpl hpo h3
 have HNG := Lib.hid (placeI_neg p)
 have HTO := Lib.hid (fun t ht => (hz.talk t ht).1)
 have HWO := Lib.hid (fun x hx => (hz.wish x hx).2.1)
 have HR : Hid (clR g p = clTo g p g.talks.length) := rfl
 have HCL := Lib.hid (clTo_len g p)
 have HIL := Lib.hid (innTo_len g p)
 have HWB := Lib.hid (wantsN_bd g)
 have HWS := Lib.hid (fun n a b h => wantsN_succ (g := g) (n := n) a b h)
 have HSRT := Lib.hid (fun base v l W (h : Own base 66 W v l) hl => sortClhs_any base l v W 86 (enters_of Tryz.func86 (by kernel_rfl) rfl) (fun x y W => clashesOfClo_any x y W) h hl)
 have hwn := hz.wishes
 have htn := hz.talks
 have hRl : (clR g p).length ≤ 100000000 := Nat.le_trans (clTo_len g p _ (Nat.le_refl _)) (Nat.le_trans (Nat.mul_le_mul htn htn) (by decide))
 generalize clR g p = R at *
 clear hg hz hp hpo hfm
 rw [Grd.agg_eq] at HBE ⊢
 have hX := Box.new w 32 #[.slice g.ra g.rooms.length g.rc, .slice g.sa g.slots.length g.sc, .slice g.ta g.talks.length g.tc, .slice g.wa g.wishes.length g.wc, .slice g.ba g.bans.length g.bc]
 have hb0 : Below w.heap.size w (w.alloc (.cells #[.slice g.ra g.rooms.length g.rc, .slice g.sa g.slots.length g.sc, .slice g.ta g.talks.length g.tc, .slice g.wa g.wishes.length g.wc, .slice g.ba g.bans.length g.bc] 32)) := (Below.refl _ _).alloc (Nat.le_refl _) _
 have hz0 : w.heap.size + 1 ≤ (w.alloc (.cells #[.slice g.ra g.rooms.length g.rc, .slice g.sa g.slots.length g.sc, .slice g.ta g.talks.length g.tc, .slice g.wa g.wishes.length g.wc, .slice g.ba g.bans.length g.bc] 32)).heap.size := by simp
 go_enter Tryz.func28, Tryz.ntmps28
 go_upto_region 2 with (fail)
 generalize w.alloc (.cells #[.slice g.ra g.rooms.length g.rc, .slice g.sa g.slots.length g.sc, .slice g.ta g.talks.length g.tc, .slice g.wa g.wishes.length g.wc, .slice g.ba g.bans.length g.bc] 32) = w1 at *
 have hX_l := hX.lt; have hX_0 := hX.cell 0; have hX_1 := hX.cell 1; have hX_2 := hX.cell 2; have hX_3 := hX.cell 3; have hX_4 := hX.cell 4; simp at hX_0 hX_1 hX_2 hX_3 hX_4
 go_wp2_with fail
 clear hX_l hX_0 hX_1 hX_2 hX_3 hX_4
 go_loopg [5, 16] g.talks.length (fun gk v' iv wr => ∃ (k : Nat) (v : Value), v = v' ∧ iv = .int .i64 k ∧ k ≤ g.talks.length ∧ Hid (gk = g.talks.length - k) ∧ Own (w.heap.size + 1) 66 wr v (clTo g p k) ∧ Box wr w.heap.size 32 #[.slice g.ra g.rooms.length g.rc, .slice g.sa g.slots.length g.sc, .slice g.ta g.talks.length g.tc, .slice g.wa g.wishes.length g.wc, .slice g.ba g.bans.length g.bc] ∧ w.heap.size + 1 ≤ wr.heap.size ∧ Below w.heap.size w wr)
 case atStart => exact ⟨0, _, rfl, rfl, by omega, rfl, Own.nil _ _ _, hX, hz0, hb0⟩
 case round =>
  clear hX hb0 hz0
  obtain ⟨k, v, rfl, rfl, hk, hgk, hown, hX, hzr, hb⟩ := hrel
  by_cases hlt : k < g.talks.length
  ·
   obtain ⟨b, off, ha, c0, c1, c2, c3⟩ := (HG.out _ hb).talks.tlkC hlt
   have Hsu := Lib.hid (clTo_succ (p := p) hlt)
   have hcl := HCL.out k (by omega)
   have Ha := Lib.hid ha
   generalize clTo g p k = A at *
   generalize g.talks[k] = x at *
   obtain ⟨t1, t2, t3, t4, t5, t6, t7, t8⟩ := x
   simp only at c0 c1 c2 c3 Hsu
   have hcl2 : A.length ≤ 1000000 := Nat.le_trans hcl (Nat.le_trans (Nat.mul_le_mul htn (Nat.le_trans (Nat.le_of_lt hlt) htn)) (by decide))
   have HIJ := Lib.hid (fun j hj => HIL.out t1 j hj)
   have HIS : Hid (∀ j (h : j < g.talks.length), innTo g p t1 (j + 1) = innTo g p t1 j ++ refS g p t1 g.talks[j].paper) := fun j h => innTo_succ h
   have HI0 : Hid (innTo g p t1 0 = []) := rfl
   generalize innTo g p t1 = inn at *
   rw [ha]
   clear ha hcl
   go_upto_region 5 with (fail)
   have hA1 := Box.new wr 101 #[.string t1, .slice t5 t2.length t6, .slice t7 t3.length t8, .int .i64 t4]
   have hb1 := hb.alloc hb.size (.cells #[.string t1, .slice t5 t2.length t6, .slice t7 t3.length t8, .int .i64 t4] 101)
   have hX1 := hX.alloc (.cells #[.string t1, .slice t5 t2.length t6, .slice t7 t3.length t8, .int .i64 t4] 101)
   have hown1 := hown.alloc (.cells #[.string t1, .slice t5 t2.length t6, .slice t7 t3.length t8, .int .i64 t4] 101)
   have hva : v.ownBlock ≠ some wr.heap.size := fun e => by have := (hown.lt _ e).2; omega
   have hz1 : wr.heap.size < (wr.alloc (.cells #[.string t1, .slice t5 t2.length t6, .slice t7 t3.length t8, .int .i64 t4] 101)).heap.size := by simp
   clear hb hown hX c0 c1 c2 c3
   generalize wr.alloc (.cells #[.string t1, .slice t5 t2.length t6, .slice t7 t3.length t8, .int .i64 t4] 101) = w2 at *
   generalize wr.heap.size = na at *
   have hX1_l := hX1.lt; have hX1_0 := hX1.cell 0; have hX1_1 := hX1.cell 1; have hX1_2 := hX1.cell 2; have hX1_3 := hX1.cell 3; have hX1_4 := hX1.cell 4; simp at hX1_0 hX1_1 hX1_2 hX1_3 hX1_4
   go_wp2_with fail
   clear hX1_l hX1_0 hX1_1 hX1_2 hX1_3 hX1_4
   have hown2 : Own (w.heap.size + 1) 66 w2 v (A ++ inn 0) := by rw [HI0.out, List.append_nil]; exact hown1
   clear hown1
   go_loopg [5, 23] g.talks.length (fun gj v' jv wq => ∃ (j : Nat) (v : Value), v = v' ∧ jv = .int .i64 j ∧ j ≤ g.talks.length ∧ Hid (gj = g.talks.length - j) ∧ Own (w.heap.size + 1) 66 wq v (A ++ inn j) ∧ Box wq w.heap.size 32 #[.slice g.ra g.rooms.length g.rc, .slice g.sa g.slots.length g.sc, .slice g.ta g.talks.length g.tc, .slice g.wa g.wishes.length g.wc, .slice g.ba g.bans.length g.bc] ∧ Box wq na 101 #[.string t1, .slice t5 t2.length t6, .slice t7 t3.length t8, .int .i64 t4] ∧ (na < wq.heap.size ∧ v.ownBlock ≠ some na) ∧ Below w.heap.size w wq)
   case atStart => exact ⟨0, _, rfl, rfl, by omega, rfl, hown2, hX1, hA1, ⟨hz1, hva⟩, hb1⟩
   case round =>
    clear hown2 hX1 hA1 hz1 hva hb1
    obtain ⟨j, v, rfl, rfl, hj, hgj, hown, hX, hA, ⟨hzq, hva⟩, hb⟩ := hrel
    by_cases hjl : j < g.talks.length
    ·
     obtain ⟨b5, off5, ha5, d0, d1, d2, d3⟩ := (HG.out _ hb).talks.tlkC hjl
     have His := Lib.hid (HIS.out j hjl)
     have hil := HIJ.out j (by omega)
     have Ha5 := Lib.hid ha5
     generalize hac : A ++ inn j = ac at *
     have hacl : ac.length ≤ 1001000 := by rw [← hac, List.length_append]; omega
     generalize g.talks[j] = y at *
     obtain ⟨u1, u2, u3, u4, u5, u6, u7, u8⟩ := y
     simp only at d0 d1 d2 d3 His
     have Hac : Hid (A ++ inn (j + 1) = ac ++ refS g p t1 u1) := by show _ = _; rw [His.out, ← List.append_assoc, hac]
     clear hac His
     rw [ha5]
     clear ha5
     go_upto_region 8 with (fail)
     have hB5 := Box.new wr 101 #[.string u1, .slice u5 u2.length u6, .slice u7 u3.length u8, .int .i64 u4]
     have hb5 := hb.alloc hb.size (.cells #[.string u1, .slice u5 u2.length u6, .slice u7 u3.length u8, .int .i64 u4] 101)
     have hX5 := hX.alloc (.cells #[.string u1, .slice u5 u2.length u6, .slice u7 u3.length u8, .int .i64 u4] 101)
     have hA5 := hA.alloc (.cells #[.string u1, .slice u5 u2.length u6, .slice u7 u3.length u8, .int .i64 u4] 101)
     have hown5 := hown.alloc (.cells #[.string u1, .slice u5 u2.length u6, .slice u7 u3.length u8, .int .i64 u4] 101)
     have hz5 : wr.heap.size < (wr.alloc (.cells #[.string u1, .slice u5 u2.length u6, .slice u7 u3.length u8, .int .i64 u4] 101)).heap.size := by simp
     have hvn : v.ownBlock ≠ some wr.heap.size := fun e => by have := (hown.lt _ e).2; omega
     clear hb hown hX hA d0 d1 d2 d3
     generalize wr.alloc (.cells #[.string u1, .slice u5 u2.length u6, .slice u7 u3.length u8, .int .i64 u4] 101) = w5 at *
     generalize wr.heap.size = nb at *
     have hA_0 := hA5.cell 0
     have hB_0 := hB5.cell 0
     have hX_0 := hX5.cell 0
     have hX_1 := hX5.cell 1
     have hX_2 := hX5.cell 2
     have hX_3 := hX5.cell 3
     have hX_4 := hX5.cell 4
     simp at hA_0 hB_0 hX_0 hX_1 hX_2 hX_3 hX_4
     have hle2 := leB_not u1 t1
     cases hle : leB u1 t1
     ·
      rw [hle, Bool.not_false] at hle2
      have Hle := Lib.hid hle
      clear hle
      cases hin : inP p t1
      ·
       have Hno : Hid (A ++ inn (j + 1) = ac) := by show _ = _; rw [Hac.out]; unfold refS refB; rw [hin, Bool.false_and, Bool.and_false, if_neg (by decide), List.append_nil]
       have hq := HNG.out t1
       rw [hin, Bool.not_false] at hq
       have HPx := Lib.hid (HPL.out t1)
       generalize placeI p t1 = q at *
       clear Hac hin Hle
       refine wp_region_held_drew (S := (fun wx => wx.cell? ⟨na, 0, none⟩ = some (.string t1) ∧ wx.cell? ⟨nb, 0, none⟩ = some (.string u1) ∧ wx.cell? ⟨w.heap.size, 0, none⟩ = some (.slice g.ra g.rooms.length g.rc) ∧ wx.cell? ⟨w.heap.size, 1, none⟩ = some (.slice g.sa g.slots.length g.sc) ∧ wx.cell? ⟨w.heap.size, 2, none⟩ = some (.slice g.ta g.talks.length g.tc) ∧ wx.cell? ⟨w.heap.size, 3, none⟩ = some (.slice g.wa g.wishes.length g.wc) ∧ wx.cell? ⟨w.heap.size, 4, none⟩ = some (.slice g.ba g.bans.length g.bc) ∧ Below w5.heap.size w5 wx)) (by kernel_rfl) ?hS (fun hHeld => ?_)
       case hS => exact ⟨hA_0, hB_0, hX_0, hX_1, hX_2, hX_3, hX_4, (Below.refl _ _).drew⟩
       refine rt 0 (some 27) ?_
       refine rt 1 (some 28) ?_
       refine rt 2 (some 29) ?_
       refine rt 3 (some 30) ?_
       refine rt 4 (some 31) ?_
       (try rw [hle2])
       refine rt 5 (some 32) ?_
       refine rt 6 (some 33) ?_
       refine rt 7 (some 34) ?_
       refine rt 8 (some 35) ?_
       refine rcall (i := 9) (d := (some 36)) (by kernel_rfl) rfl (by kernel_rfl) (fun K hK => ?_)
       rw [if_pos (by kernel_rfl)]; go_simp; go_at_call 84; refine (HPx.out _ (below_next hb5 hHeld.2.2.2.2.2.2.2)).mono ?_; rintro e w6 ⟨rfl, hb6⟩
       refine hK.out _ _ ?hS (fun hHeld => ?_)
       case hS => exact ⟨cell_later hb6 hHeld.1, cell_later hb6 hHeld.2.1, cell_later hb6 hHeld.2.2.1, cell_later hb6 hHeld.2.2.2.1, cell_later hb6 hHeld.2.2.2.2.1, cell_later hb6 hHeld.2.2.2.2.2.1, cell_later hb6 hHeld.2.2.2.2.2.2.1, below_next hHeld.2.2.2.2.2.2.2 hb6⟩
       clear hK K
       simp only [Act.put, lsetA, lsetZ, lsetS]
       refine rt 10 (some 37) ?_
       (try rw [hq])
       refine rt 11 (some 38) ?_
       refine rt 12 (some 39) ?_
       refine rs 13 (some 40) ?_
       refine rs 14 (some 41) ?_
       refine rs 15 (some 42) ?_
       refine rs 16 (some 43) ?_
       refine rs 18 (some 45) ?_
       refine rs 19 (some 46) ?_
       refine rcall (i := 17) (d := (some 44)) (by kernel_rfl) rfl (by kernel_rfl) (fun K hK => ?_)
       rw [if_neg (by rw [show Region.wanted _ _ = false by kernel_rfl]; decide)]
       refine hK.out _ _ ?hS (fun hHeld => ?_)
       case hS => exact hHeld
       clear hK K
       simp only [Act.put, lsetA, lsetZ, lsetS]
       refine rcall (i := 20) (d := (some 47)) (by kernel_rfl) rfl (by kernel_rfl) (fun K hK => ?_)
       rw [if_neg (by rw [show Region.wanted _ _ = false by kernel_rfl]; decide)]
       refine hK.out _ _ ?hS (fun hHeld => ?_)
       case hS => exact hHeld
       clear hK K
       simp only [Act.put, lsetA, lsetZ, lsetS]
       refine rs 21 (some 48) ?_
       refine rt 22 (some 49) ?_
       refine wpAnyH_done (by kernel_rfl) ?_ _
       have hb7 := below_next hb5 hHeld.2.2.2.2.2.2.2
       have hX7 := hX5.below hHeld.2.2.2.2.2.2.2
       have hA7 := hA5.below hHeld.2.2.2.2.2.2.2
       have hown7 := hown5.below hHeld.2.2.2.2.2.2.2
       have hz7 := Nat.lt_of_lt_of_le hz5 hHeld.2.2.2.2.2.2.2.size
       clear hHeld hX5 hA5 hB5 hown5 hb5 hA_0 hB_0 hX_0 hX_1 hX_2 hX_3 hX_4
       rw [← Ha5.out]
       rw [← Hno.out] at hown7
       go_wp2_with fail
       go_roundg (g.talks.length - (j + 1))
       case measure => have := hgj.out; omega
       case rel => exact ⟨j + 1, _, rfl, by go_num, by omega, rfl, hown7, hX7, hA7, ⟨by omega, hva⟩, hb7⟩
      ·
       obtain ⟨qi, hqi, hbl, hBE⟩ := HBE.out t1 hin
       have hq := HNG.out t1
       rw [hin, Bool.not_true] at hq
       have HPx := Lib.hid (HPL.out t1)
       have HBx := Lib.hid hBE
       have Hcb : Hid (refB g p t1 u1 = (keysS (besX g p t1)).any (fun y => decide (y = u1))) := by show _ = _; unfold refB; rw [Hle.out, hin, Bool.not_false, Bool.true_and, Bool.true_and]; exact (inB_keys _ _).symm
       have hkl : (keysS (besX g p t1)).length ≤ 1000000000 := Nat.le_trans (keysS_length _) (by omega)
       have Hac2 : Hid (A ++ inn (j + 1) = ac ++ if refB g p t1 u1 = true then (if 0 < wantsN g g.wishes.length t1 u1 then ([(t1, u1, (wantsN g g.wishes.length t1 u1 : Nat))] : List Clh) else []) else []) := Hac
       rw [Hcb.out] at Hac2
       generalize placeI p t1 = q at *
       generalize keysS (besX g p t1) = bs at *
       clear hqi hin Hle hBE hbl Hcb Hac
       refine wp_region_held_drew (S := (fun wx => wx.cell? ⟨na, 0, none⟩ = some (.string t1) ∧ wx.cell? ⟨nb, 0, none⟩ = some (.string u1) ∧ wx.cell? ⟨w.heap.size, 0, none⟩ = some (.slice g.ra g.rooms.length g.rc) ∧ wx.cell? ⟨w.heap.size, 1, none⟩ = some (.slice g.sa g.slots.length g.sc) ∧ wx.cell? ⟨w.heap.size, 2, none⟩ = some (.slice g.ta g.talks.length g.tc) ∧ wx.cell? ⟨w.heap.size, 3, none⟩ = some (.slice g.wa g.wishes.length g.wc) ∧ wx.cell? ⟨w.heap.size, 4, none⟩ = some (.slice g.ba g.bans.length g.bc) ∧ Below w5.heap.size w5 wx)) (by kernel_rfl) ?hS (fun hHeld => ?_)
       case hS => exact ⟨hA_0, hB_0, hX_0, hX_1, hX_2, hX_3, hX_4, (Below.refl _ _).drew⟩
       refine rt 0 (some 27) ?_
       refine rt 1 (some 28) ?_
       refine rt 2 (some 29) ?_
       refine rt 3 (some 30) ?_
       refine rt 4 (some 31) ?_
       (try rw [hle2])
       refine rt 5 (some 32) ?_
       refine rt 6 (some 33) ?_
       refine rt 7 (some 34) ?_
       refine rt 8 (some 35) ?_
       refine rcall (i := 9) (d := (some 36)) (by kernel_rfl) rfl (by kernel_rfl) (fun K hK => ?_)
       rw [if_pos (by kernel_rfl)]; go_simp; go_at_call 84; refine (HPx.out _ (below_next hb5 hHeld.2.2.2.2.2.2.2)).mono ?_; rintro e w6 ⟨rfl, hb6⟩
       refine hK.out _ _ ?hS (fun hHeld => ?_)
       case hS => exact ⟨cell_later hb6 hHeld.1, cell_later hb6 hHeld.2.1, cell_later hb6 hHeld.2.2.1, cell_later hb6 hHeld.2.2.2.1, cell_later hb6 hHeld.2.2.2.2.1, cell_later hb6 hHeld.2.2.2.2.2.1, cell_later hb6 hHeld.2.2.2.2.2.2.1, below_next hHeld.2.2.2.2.2.2.2 hb6⟩
       clear hK K
       simp only [Act.put, lsetA, lsetZ, lsetS]
       refine rt 10 (some 37) ?_
       (try rw [hq])
       refine rt 11 (some 38) ?_
       refine rt 12 (some 39) ?_
       refine rt 13 (some 40) ?_
       refine rt 14 (some 41) ?_
       refine rt 15 (some 42) ?_
       refine rt 16 (some 43) ?_
       refine rt 18 (some 45) ?_
       refine rt 19 (some 46) ?_
       refine rcall (i := 17) (d := (some 44)) (by kernel_rfl) rfl (by kernel_rfl) (fun K hK => ?_)
       rw [if_pos (by kernel_rfl)]; go_simp; go_at_call 46; refine (HBx.out _ (below_next hb5 hHeld.2.2.2.2.2.2.2)).mono ?_; rintro e w8 ⟨vb, rfl, hvb, hb8⟩; obtain ⟨la, lc, rfl, hla, -, -⟩ := hvb.sa
       refine hK.out _ _ ?hS (fun hHeld => ?_)
       case hS => exact ⟨cell_later hb8 hHeld.1, cell_later hb8 hHeld.2.1, cell_later hb8 hHeld.2.2.1, cell_later hb8 hHeld.2.2.2.1, cell_later hb8 hHeld.2.2.2.2.1, cell_later hb8 hHeld.2.2.2.2.2.1, cell_later hb8 hHeld.2.2.2.2.2.2.1, below_next hHeld.2.2.2.2.2.2.2 hb8⟩
       clear hK K
       simp only [Act.put, lsetA, lsetZ, lsetS]
       refine rcall (i := 20) (d := (some 47)) (by kernel_rfl) rfl (by kernel_rfl) (fun K hK => ?_)
       rw [if_pos (by kernel_rfl)]; go_simp; go_at_call 45; refine (contains_any bs la lc u1 _ hla hkl).mono ?_; rintro e w9 ⟨rfl, rfl⟩
       refine hK.out _ _ ?hS (fun hHeld => ?_)
       case hS => exact hHeld
       clear hK K
       simp only [Act.put, lsetA, lsetZ, lsetS]
       refine rt 21 (some 48) ?_
       refine rt 22 (some 49) ?_
       refine wpAnyH_done (by kernel_rfl) ?_ _
       have hB7 := hB5.below hHeld.2.2.2.2.2.2.2
       have hb7 := below_next hb5 hHeld.2.2.2.2.2.2.2
       have hX7 := hX5.below hHeld.2.2.2.2.2.2.2
       have hA7 := hA5.below hHeld.2.2.2.2.2.2.2
       have hown7 := hown5.below hHeld.2.2.2.2.2.2.2
       have hz7 := Nat.lt_of_lt_of_le hz5 hHeld.2.2.2.2.2.2.2.size
       clear hHeld hX5 hA5 hB5 hown5 hb5 hA_0 hB_0 hX_0 hX_1 hX_2 hX_3 hX_4
       rw [← Ha5.out]
       generalize bs.any (fun y => decide (y = u1)) = ib at *
       cases ib
       ·
        have Hno : Hid (A ++ inn (j + 1) = ac) := by show _ = _; rw [Hac2.out, if_neg (by decide), List.append_nil]
        rw [← Hno.out] at hown7
        go_wp2_with fail
        go_roundg (g.talks.length - (j + 1))
        case measure => have := hgj.out; omega
        case rel => exact ⟨j + 1, _, rfl, by go_num, by omega, rfl, hown7, hX7, hA7, ⟨by omega, hva⟩, hb7⟩
       ·
        have Hw : Hid (A ++ inn (j + 1) = ac ++ if 0 < wantsN g g.wishes.length t1 u1 then ([(t1, u1, (wantsN g g.wishes.length t1 u1 : Nat))] : List Clh) else []) := by show _ = _; rw [Hac2.out, if_pos rfl]
        have HWS1 := Lib.hid (fun n h => HWS.out n t1 u1 h)
        have HWB1 := Lib.hid (fun n => HWB.out n t1 u1)
        have HW0 : Hid (wantsN g 0 t1 u1 = 0) := by show _ = _; unfold wantsN; rfl
        clear Hac2 HWS HWB
        generalize wantsN g = wN at *
        go_wp2_with fail
        go_loopg [10, 53] g.wishes.length (fun gn nv iv wq => ∃ n : Nat, nv = .int .i64 (wN n t1 u1 : Nat) ∧ iv = .int .i64 n ∧ n ≤ g.wishes.length ∧ Hid (gn = g.wishes.length - n) ∧ Own (w.heap.size + 1) 66 wq v ac ∧ Box wq w.heap.size 32 #[.slice g.ra g.rooms.length g.rc, .slice g.sa g.slots.length g.sc, .slice g.ta g.talks.length g.tc, .slice g.wa g.wishes.length g.wc, .slice g.ba g.bans.length g.bc] ∧ Box wq na 101 #[.string t1, .slice t5 t2.length t6, .slice t7 t3.length t8, .int .i64 t4] ∧ Box wq nb 101 #[.string u1, .slice u5 u2.length u6, .slice u7 u3.length u8, .int .i64 u4] ∧ nb < wq.heap.size ∧ Below w.heap.size w wq)
        case atStart => exact ⟨0, by rw [HW0.out]; rfl, rfl, by omega, rfl, hown7, hX7, hA7, hB7, hz7, hb7⟩
        case round =>
         clear hown7 hX7 hA7 hB7 hz7 hb7
         obtain ⟨n, rfl, rfl, hn, hgn, hown, hX, hA, hB, hz, hb⟩ := hrel
         by_cases hnl : n < g.wishes.length
         ·
          obtain ⟨ub, uoff, hu, e0, e1⟩ := (HG.out _ hb).wishes.wshC hnl
          have hum : g.wishes[n] ∈ g.wishes := List.getElem_mem hnl
          have HWP := Lib.hid (fun W (h : Below w.heap.size w W) => (HG.out W h).papers _ hum)
          have huw := HWO.out _ hum
          have Hcs := Lib.hid (HWS1.out n hnl)
          have hcb := HWB1.out n
          have Hu := Lib.hid hu
          generalize wN n t1 u1 = C at *
          generalize g.wishes[n] = x at *
          obtain ⟨v1, v2, v3, v4⟩ := x
          simp only at e0 e1 HWP huw Hcs
          rw [hu]
          clear hu hum
          go_upto_region 13 with (fail)
          have hU := Box.new wr 103 #[.string v1, .slice v3 v2.length v4]
          have hX2 := hX.alloc (.cells #[.string v1, .slice v3 v2.length v4] 103)
          have hA2 := hA.alloc (.cells #[.string v1, .slice v3 v2.length v4] 103)
          have hB2 := hB.alloc (.cells #[.string v1, .slice v3 v2.length v4] 103)
          have hown2 := hown.alloc (.cells #[.string v1, .slice v3 v2.length v4] 103)
          have hb2 := hb.alloc hb.size (.cells #[.string v1, .slice v3 v2.length v4] 103)
          have hz2 : nb < (wr.alloc (.cells #[.string v1, .slice v3 v2.length v4] 103)).heap.size := by simp; omega
          clear hX hA hB hown hb hz e0 e1
          generalize wr.alloc (.cells #[.string v1, .slice v3 v2.length v4] 103) = w4 at *
          generalize wr.heap.size = nu at *
          have HCT : Hid (∀ W x, SA W v3 v2 → Calls Tryz.prog 45 #[.slice v3 v2.length v4, .string x] W (fun e w' => e = .returned (.bool (v2.any (fun y => decide (y = x)))) ∧ W = w')) := fun W x h => contains_any v2 v3 v4 x W h (by omega)
          have H1 := Lib.hid (fun W h => HCT.out W t1 h)
          have H2 := Lib.hid (fun W h => HCT.out W u1 h)
          have Hcs2 : Hid (wN (n + 1) t1 u1 = C + if (v2.any (fun y => decide (y = t1)) && v2.any (fun y => decide (y = u1))) = true then 1 else 0) := Hcs
          clear Hcs HCT
          generalize v2.any (fun y => decide (y = t1)) = i1 at *
          generalize v2.any (fun y => decide (y = u1)) = i2 at *
          have hU_l := hU.lt; have hU_0 := hU.cell 0; have hU_1 := hU.cell 1; simp at hU_0 hU_1
          have hA2_l := hA2.lt; have hA2_0 := hA2.cell 0; have hA2_1 := hA2.cell 1; have hA2_2 := hA2.cell 2; have hA2_3 := hA2.cell 3; simp at hA2_0 hA2_1 hA2_2 hA2_3
          have hB2_l := hB2.lt; have hB2_0 := hB2.cell 0; have hB2_1 := hB2.cell 1; have hB2_2 := hB2.cell 2; have hB2_3 := hB2.cell 3; simp at hB2_0 hB2_1 hB2_2 hB2_3
          go_wp2_with fail
          refine (H1.out _ (HWP.out _ hb2)).mono ?_
          rintro e w9 ⟨rfl, rfl⟩
          cases i1
          ·
           have Hz : Hid (wN (n + 1) t1 u1 = C) := by show _ = _; rw [Hcs2.out, Bool.false_and, if_neg (by decide), Nat.add_zero]
           clear Hcs2
           go_wp2_with fail
           rw [← Hu.out]
           go_roundg (g.wishes.length - (n + 1))
           case measure => have := hgn.out; omega
           case rel => exact ⟨n + 1, by rw [Hz.out], by go_num, by omega, rfl, hown2, hX2, hA2, hB2, hz2, hb2⟩
          ·
           rw [Bool.true_and] at Hcs2
           go_wp2_with fail
           refine (H2.out _ (HWP.out _ hb2)).mono ?_
           rintro e w9 ⟨rfl, rfl⟩
           cases i2
           ·
            have Hz : Hid (wN (n + 1) t1 u1 = C) := by show _ = _; rw [Hcs2.out, if_neg (by decide), Nat.add_zero]
            clear Hcs2
            go_wp2_with fail
            rw [← Hu.out]
            go_roundg (g.wishes.length - (n + 1))
            case measure => have := hgn.out; omega
            case rel => exact ⟨n + 1, by rw [Hz.out], by go_num, by omega, rfl, hown2, hX2, hA2, hB2, hz2, hb2⟩
           ·
            have Hz : Hid (wN (n + 1) t1 u1 = C + 1) := by show _ = _; rw [Hcs2.out, if_pos rfl]
            have hw : IntKind.i64.wrap ((C : Int) + 1) = (C : Int) + 1 := IntWalk.i64_in _ (by omega)
            clear Hcs2
            go_wp2_with fail
            rw [← Hu.out]
            go_roundg (g.wishes.length - (n + 1))
            case measure => have := hgn.out; omega
            case rel => exact ⟨n + 1, by rw [Hz.out]; rfl, by go_num, by omega, rfl, hown2, hX2, hA2, hB2, hz2, hb2⟩
         ·
          obtain rfl : n = g.wishes.length := by omega
          have hcb := HWB1.out g.wishes.length
          generalize wN g.wishes.length t1 u1 = C at *
          by_cases hC0 : 0 < C
          ·
           rw [if_pos hC0] at Hw
           have hC1 : (0 : Int) < (C : Int) := by omega
           have hown8 := hown.alloc (.cells #[.string t1, .string u1, .int .i64 (C : Nat)] 66)
           have hbo := Box.new wr 66 #[.string t1, .string u1, .int .i64 (C : Nat)]
           have hb8 := hb.alloc hb.size (.cells #[.string t1, .string u1, .int .i64 (C : Nat)] 66)
           have hX8 := hX.alloc (.cells #[.string t1, .string u1, .int .i64 (C : Nat)] 66)
           have hA8 := hA.alloc (.cells #[.string t1, .string u1, .int .i64 (C : Nat)] 66)
           have hol := hown8.lt
           have hbz := hb.size
           have hA_l := hA.lt; have hA_0 := hA.cell 0; have hA_1 := hA.cell 1; have hA_2 := hA.cell 2; have hA_3 := hA.cell 3; simp at hA_0 hA_1 hA_2 hA_3
           have hB_l := hB.lt; have hB_0 := hB.cell 0; have hB_1 := hB.cell 1; have hB_2 := hB.cell 2; have hB_3 := hB.cell 3; simp at hB_0 hB_1 hB_2 hB_3
           go_wp2_with (at_builtin; refine wpList_append_lie (α := Clh) rfl _ _ 56 rfl 66 40 (.agg #[.string ⟨#[]⟩, .string ⟨#[]⟩, .int .i64 0]) Tryz.underlying56 infoClh rfl _ ac rfl hown8 (t1, u1, (C : Int)) _ rfl hbo (by omega) (by omega) (by simp; omega) ?_; intro g9 cap9 w9 hown9 hg9 hat9)
           have hb9 := hb8.grown hg9 (by have := hb8.size; omega) (fun j hj => by have := (hol j hj).1; omega)
           have hX9 := hX8.grown hg9 (fun e => by have := (hol _ e.symm).1; omega)
           have hA9 := hA8.grown hg9 (fun e => hva e.symm)
           have hz9 := ((Kp.refl (fun j => v.ownBlock = some j) _).grown hg9 (fun j hj => .inl hj)).size
           have hz10 : na < w9.heap.size := by simp at hz9; omega
           have hva9 : (Value.slice (some ⟨g9, 0, none⟩) (ac.length + 1) cap9).ownBlock ≠ some na := fun e => by
            obtain rfl : g9 = na := Option.some.inj e
            rcases hat9 with h | h
            ·
             exact hva h
            ·
             simp at h; omega
           rw [← Hw.out] at hown9
           (try go_wp2_with fail)
           go_roundg (g.talks.length - (j + 1))
           case measure => have := hgj.out; omega
           case rel => exact ⟨j + 1, _, rfl, by go_num, by omega, rfl, hown9, hX9, hA9, ⟨hz10, hva9⟩, hb9⟩
          ·
           rw [if_neg hC0, List.append_nil] at Hw
           obtain rfl : C = 0 := by omega
           rw [← Hw.out] at hown
           go_wp2_with fail
           go_roundg (g.talks.length - (j + 1))
           case measure => have := hgj.out; omega
           case rel => exact ⟨j + 1, _, rfl, by go_num, by omega, rfl, hown, hX, hA, ⟨by omega, hva⟩, hb⟩
     ·
      rw [hle, Bool.not_true] at hle2
      have Hno : Hid (A ++ inn (j + 1) = ac) := by show _ = _; rw [Hac.out]; unfold refS refB; rw [hle, Bool.not_true, Bool.false_and, if_neg (by decide), List.append_nil]
      clear hle Hac
      refine wp_region_held_drew (S := (fun wx => wx.cell? ⟨na, 0, none⟩ = some (.string t1) ∧ wx.cell? ⟨nb, 0, none⟩ = some (.string u1) ∧ wx.cell? ⟨w.heap.size, 0, none⟩ = some (.slice g.ra g.rooms.length g.rc) ∧ wx.cell? ⟨w.heap.size, 1, none⟩ = some (.slice g.sa g.slots.length g.sc) ∧ wx.cell? ⟨w.heap.size, 2, none⟩ = some (.slice g.ta g.talks.length g.tc) ∧ wx.cell? ⟨w.heap.size, 3, none⟩ = some (.slice g.wa g.wishes.length g.wc) ∧ wx.cell? ⟨w.heap.size, 4, none⟩ = some (.slice g.ba g.bans.length g.bc) ∧ Below w5.heap.size w5 wx)) (by kernel_rfl) ?hS (fun hHeld => ?_)
      case hS => exact ⟨hA_0, hB_0, hX_0, hX_1, hX_2, hX_3, hX_4, (Below.refl _ _).drew⟩
      refine rt 0 (some 27) ?_
      refine rt 1 (some 28) ?_
      refine rt 2 (some 29) ?_
      refine rt 3 (some 30) ?_
      refine rt 4 (some 31) ?_
      (try rw [hle2])
      refine rt 5 (some 32) ?_
      refine rs 6 (some 33) ?_
      refine rs 7 (some 34) ?_
      refine rs 8 (some 35) ?_
      refine rcall (i := 9) (d := (some 36)) (by kernel_rfl) rfl (by kernel_rfl) (fun K hK => ?_)
      rw [if_neg (by rw [show Region.wanted _ _ = false by kernel_rfl]; decide)]
      refine hK.out _ _ ?hS (fun hHeld => ?_)
      case hS => exact hHeld
      clear hK K
      simp only [Act.put, lsetA, lsetZ, lsetS]
      refine rs 10 (some 37) ?_
      refine rt 11 (some 38) ?_
      refine rt 12 (some 39) ?_
      refine rs 13 (some 40) ?_
      refine rs 14 (some 41) ?_
      refine rs 15 (some 42) ?_
      refine rs 16 (some 43) ?_
      refine rs 18 (some 45) ?_
      refine rs 19 (some 46) ?_
      refine rcall (i := 17) (d := (some 44)) (by kernel_rfl) rfl (by kernel_rfl) (fun K hK => ?_)
      rw [if_neg (by rw [show Region.wanted _ _ = false by kernel_rfl]; decide)]
      refine hK.out _ _ ?hS (fun hHeld => ?_)
      case hS => exact hHeld
      clear hK K
      simp only [Act.put, lsetA, lsetZ, lsetS]
      refine rcall (i := 20) (d := (some 47)) (by kernel_rfl) rfl (by kernel_rfl) (fun K hK => ?_)
      rw [if_neg (by rw [show Region.wanted _ _ = false by kernel_rfl]; decide)]
      refine hK.out _ _ ?hS (fun hHeld => ?_)
      case hS => exact hHeld
      clear hK K
      simp only [Act.put, lsetA, lsetZ, lsetS]
      refine rs 21 (some 48) ?_
      refine rt 22 (some 49) ?_
      refine wpAnyH_done (by kernel_rfl) ?_ _
      have hb7 := below_next hb5 hHeld.2.2.2.2.2.2.2
      have hX7 := hX5.below hHeld.2.2.2.2.2.2.2
      have hA7 := hA5.below hHeld.2.2.2.2.2.2.2
      have hown7 := hown5.below hHeld.2.2.2.2.2.2.2
      have hz7 := Nat.lt_of_lt_of_le hz5 hHeld.2.2.2.2.2.2.2.size
      clear hHeld hX5 hA5 hB5 hown5 hb5 hA_0 hB_0 hX_0 hX_1 hX_2 hX_3 hX_4
      rw [← Ha5.out]
      rw [← Hno.out] at hown7
      go_wp2_with fail
      go_roundg (g.talks.length - (j + 1))
      case measure => have := hgj.out; omega
      case rel => exact ⟨j + 1, _, rfl, by go_num, by omega, rfl, hown7, hX7, hA7, ⟨by omega, hva⟩, hb7⟩
    ·
     obtain rfl : j = g.talks.length := by omega
     rw [← Hsu.out] at hown
     rw [← Ha.out]
     go_wp2_with fail
     go_roundg (g.talks.length - (k + 1))
     case measure => have := hgk.out; omega
     case rel => exact ⟨k + 1, _, rfl, by go_num, by omega, rfl, hown, hX, by omega, hb⟩
  ·
   obtain rfl : k = g.talks.length := by omega
   rw [← HR.out] at hown
   go_wp2_with fail
   refine (HSRT.out _ v R _ hown hRl).mono ?_
   rintro e w9 ⟨rfl, hown9, hk9⟩
   have hb9 := belowKp hb hk9 (fun j hj => by have := (hown.lt j hj).1; omega) hb.size
   go_wp2_with fail
   go_ret
   exact ⟨_, rfl, hown9.mono (by omega), hb9⟩
theorem cntT_append (l m : List Two) (k : Two) : cntT (l ++ m) k = cntT l k + cntT m k := by unfold cntT; exact List.countP_append
open Classical in
theorem cntT_nd (k : Two) : ∀ l : List Two, l.Nodup → cntT l k = if k ∈ l then 1 else 0
 | [], _ => by rw [if_neg (by simp)]; rfl
 | e :: r, h => by
  rw [List.nodup_cons] at h
  have ih := cntT_nd k r h.2
  have h1 : cntT (e :: r) k = cntT r k + if e = k then 1 else 0 := by
   unfold cntT
   rw [List.countP_cons]
   congr 1
   by_cases h : e = k
   ·
    rw [decide_eq_true h, if_pos rfl, if_pos h]
   ·
    rw [decide_eq_false h, if_neg (by decide), if_neg h]
  rw [h1, ih]
  by_cases he : e = k
  ·
   subst he
   rw [if_neg h.1, if_pos rfl, if_pos List.mem_cons_self]
  ·
   rw [if_neg he, Nat.add_zero]
   by_cases hk : k ∈ r
   ·
    rw [if_pos hk, if_pos (List.mem_cons_of_mem _ hk)]
   ·
    rw [if_neg hk, if_neg (fun h2 => (List.mem_cons.1 h2).elim (fun e2 => he e2.symm) hk)]
def evL (g : Grd) (p : List Ses) : List ByteArray → List Two
 | [] => []
 | a :: r => evR g p a r r.length ++ evL g p r
theorem evW_L (g : Grd) (p : List Ses) (l : List ByteArray) : ∀ i, i ≤ l.length → evW g p l i ++ evL g p (l.drop i) = evL g p l
 | 0, _ => rfl
 | i + 1, h => by
  have h1 := evW_L g p l i (by omega)
  rw [List.drop_eq_getElem_cons (by omega : i < l.length)] at h1
  rw [evW_succ (by omega : i < l.length), List.append_assoc]
  exact h1
theorem evR_mem {g : Grd} {p : List Ses} {a : ByteArray} {l : List ByteArray} {k : Two} : k ∈ evR g p a l l.length ↔ k.1 = a ∧ k.2 ∈ l ∧ clB g p a k.2 = true := by
 unfold evR
 rw [List.take_length, List.mem_map]
 constructor
 ·
  rintro ⟨b, hb, rfl⟩
  rw [List.mem_filter] at hb
  exact ⟨rfl, hb⟩
 ·
  rintro ⟨rfl, h⟩
  exact ⟨k.2, List.mem_filter.2 h, rfl⟩
theorem evL_mem {g : Grd} {p : List Ses} {k : Two} : ∀ {l : List ByteArray}, l.Pairwise ltS → (k ∈ evL g p l ↔ k.1 ∈ l ∧ k.2 ∈ l ∧ ltS k.1 k.2 ∧ clB g p k.1 k.2 = true)
 | [], _ => by simp [evL]
 | a :: r, h => by
  rw [List.pairwise_cons] at h
  have ih := evL_mem (g := g) (p := p) (k := k) h.2
  unfold evL
  rw [List.mem_append, evR_mem, ih]
  constructor
  ·
   rintro (⟨h1, h2, h3⟩ | ⟨h1, h2, h3, h4⟩)
   ·
    rw [h1]
    exact ⟨List.mem_cons_self, List.mem_cons_of_mem _ h2, h.1 _ h2, h3⟩
   ·
    exact ⟨List.mem_cons_of_mem _ h1, List.mem_cons_of_mem _ h2, h3, h4⟩
  ·
   rintro ⟨h1, h2, h3, h4⟩
   rcases List.mem_cons.1 h1 with e1 | h1
   ·
    rcases List.mem_cons.1 h2 with e2 | h2
    ·
     rw [e1, e2] at h3; exact absurd h3 (ltS_irrefl _)
    ·
     rw [e1] at h4; exact .inl ⟨e1, h2, h4⟩
   ·
    rcases List.mem_cons.1 h2 with e2 | h2
    ·
     rw [e2] at h3; exact absurd h3 (ltS_asymm (h.1 _ h1))
    ·
     exact .inr ⟨h1, h2, h3, h4⟩
theorem ltS_nd {l : List ByteArray} (h : l.Pairwise ltS) : l.Nodup := h.imp (fun {a b} hab e => by rw [e] at hab; exact ltS_irrefl _ hab)
theorem evL_nd {g : Grd} {p : List Ses} : ∀ {l : List ByteArray}, l.Pairwise ltS → (evL g p l).Nodup
 | [], _ => List.Pairwise.nil
 | a :: r, h => by
  rw [List.pairwise_cons] at h
  unfold evL
  refine List.pairwise_append.2 ⟨?_, evL_nd h.2, ?_⟩
  ·
   unfold evR
   rw [List.take_length, List.pairwise_map]
   exact ((ltS_nd h.2).filter _).imp (fun {x y} hxy e => hxy (Prod.mk.inj e).2)
  ·
   intro x hx y hy e
   have h1 := (evR_mem.1 hx).1
   have h2 := ((evL_mem h.2).1 hy).1
   rw [← e, h1] at h2
   exact ltS_irrefl _ (h.1 _ h2)
open Classical in
theorem evW_cnt {g : Grd} {p : List Ses} {l : List ByteArray} (h : l.Pairwise ltS) (k : Two) : cntT (evW g p l l.length) k = if k.1 ∈ l ∧ k.2 ∈ l ∧ ltS k.1 k.2 ∧ clB g p k.1 k.2 = true then 1 else 0 := by
 have h1 := evW_L g p l l.length (Nat.le_refl _)
 rw [List.drop_length] at h1
 have h2 : evW g p l l.length = evL g p l := by rw [← h1]; simp [evL]
 rw [h2, cntT_nd k _ (evL_nd h)]
 by_cases hk : k ∈ evL g p l
 ·
  rw [if_pos hk, if_pos ((evL_mem h).1 hk)]
 ·
  rw [if_neg hk, if_neg (fun h3 => hk ((evL_mem h).2 h3))]
theorem evT_cnt {g : Grd} {p : List Ses} (hw : ∀ x ∈ g.wishes, x.papers.Pairwise ltS) (a b : ByteArray) (hab : ltS a b) (hc : clB g p a b = true) : ∀ n, n ≤ g.wishes.length → cntT (evT g p n) (a, b) = wantsN g n a b
 | 0, _ => by unfold wantsN; rfl
 | n + 1, h => by
  have ih := evT_cnt hw a b hab hc n (by omega)
  rw [evT_succ (by omega : n < g.wishes.length), cntT_append, ih, wantsN_succ a b (by omega : n < g.wishes.length), evW_cnt (hw _ (List.getElem_mem _))]
  congr 1
  by_cases hi : (inB g.wishes[n].papers a && inB g.wishes[n].papers b) = true
  ·
   rw [if_pos hi]
   rw [Bool.and_eq_true, inB_iff, inB_iff] at hi
   rw [if_pos ⟨hi.1, hi.2, hab, hc⟩]
  ·
   rw [if_neg hi]
   refine if_neg (fun h2 => hi ?_)
   rw [Bool.and_eq_true, inB_iff, inB_iff]
   exact ⟨h2.1, h2.2.1⟩
theorem evT_none {g : Grd} {p : List Ses} (hw : ∀ x ∈ g.wishes, x.papers.Pairwise ltS) (a b : ByteArray) (hn : ¬ (ltS a b ∧ clB g p a b = true)) : ∀ n, n ≤ g.wishes.length → cntT (evT g p n) (a, b) = 0
 | 0, _ => rfl
 | n + 1, h => by
  rw [evT_succ (by omega : n < g.wishes.length), cntT_append, evT_none hw a b hn n (by omega), evW_cnt (hw _ (List.getElem_mem _)), if_neg (fun h2 => hn h2.2.2)]
/-- The pairs counted, as a list of clashes. -/
theorem cM_nd (ev : List Two) : ((cM ev).map (·.1)).Nodup := by
 have h : ∀ ev : List Two, ((cM ev.reverse).map (·.1)).Nodup := by
  intro ev
  induction ev with
  | nil => exact List.Pairwise.nil
  | cons e r ih => rw [List.reverse_cons, cM_snoc]; exact gput_nodup ih _ _
 have h2 := h ev.reverse
 rwa [List.reverse_reverse] at h2
theorem clP_nd (g : Grd) (p : List Ses) : (clP g p).Nodup := by
 unfold clP
 have h := cM_nd (evT g p g.wishes.length)
 unfold List.Nodup at h ⊢
 rw [List.pairwise_map] at h ⊢
 refine h.imp (fun {x y} hxy e => hxy ?_)
 unfold toC at e
 have e1 := (Prod.mk.inj e).1
 have e2 := (Prod.mk.inj (Prod.mk.inj e).2).1
 exact Prod.ext e1 e2
theorem clP_mem (g : Grd) (p : List Ses) (c : Clh) : c ∈ clP g p ↔ cntT (evT g p g.wishes.length) (c.1, c.2.1) ≠ 0 ∧ c.2.2 = (cntT (evT g p g.wishes.length) (c.1, c.2.1) : Nat) := by
 generalize hev : evT g p g.wishes.length = ev
 have hnd := cM_nd ev
 have hget := cM_get ev (c.1, c.2.1)
 unfold clP
 rw [hev, List.mem_map]
 constructor
 ·
  rintro ⟨⟨k, v⟩, hm, rfl⟩
  obtain ⟨j, hj, he⟩ := List.mem_iff_getElem.1 hm
  have h1 : gget (cM ev) k = some v := gget_at hnd (by rw [List.getElem?_eq_getElem hj, he])
  have hk : ((toC (k, v)).1, (toC (k, v)).2.1) = k := rfl
  rw [hk] at hget ⊢
  rw [h1] at hget
  by_cases h0 : cntT ev k = 0
  ·
   rw [if_pos h0] at hget; exact absurd hget (by simp)
  ·
   rw [if_neg h0] at hget
   refine ⟨h0, ?_⟩
   obtain rfl := Option.some.inj hget
   rfl
 ·
  rintro ⟨h0, h1⟩
  rw [if_neg h0] at hget
  have hk : (c.1, c.2.1) ∈ (cM ev).map (·.1) := by
   apply Classical.byContradiction
   intro hn
   rw [gget_none hn] at hget
   exact absurd hget (by simp)
  obtain ⟨⟨k, v⟩, hm, hkk⟩ := List.mem_map.1 hk
  obtain ⟨j, hj, he⟩ := List.mem_iff_getElem.1 hm
  have h2 : gget (cM ev) k = some v := gget_at hnd (by rw [List.getElem?_eq_getElem hj, he])
  simp only at hkk
  rw [← hkk, h2] at hget
  obtain rfl := Option.some.inj hget
  refine ⟨_, hm, ?_⟩
  unfold toC
  simp only [numV]
  rw [hkk, ← h1]
theorem clTo_flat (g : Grd) (p : List Ses) : ∀ k, k ≤ g.talks.length → clTo g p k = (g.talks.take k).flatMap (fun t => innTo g p t.paper g.talks.length)
 | 0, _ => rfl
 | k + 1, h => by
  rw [clTo_succ (by omega : k < g.talks.length), clTo_flat g p k (by omega), List.take_succ_eq_append_getElem (by omega : k < g.talks.length), List.flatMap_append]
  simp
theorem innTo_flat (g : Grd) (p : List Ses) (a : ByteArray) : ∀ k, k ≤ g.talks.length → innTo g p a k = (g.talks.take k).flatMap (fun t => refS g p a t.paper)
 | 0, _ => rfl
 | k + 1, h => by
  rw [innTo_succ (by omega : k < g.talks.length), innTo_flat g p a k (by omega), List.take_succ_eq_append_getElem (by omega : k < g.talks.length), List.flatMap_append]
  simp
theorem refS_mem {g : Grd} {p : List Ses} {a b : ByteArray} {c : Clh} : c ∈ refS g p a b ↔ refB g p a b = true ∧ 0 < wantsN g g.wishes.length a b ∧ c = (a, b, ((wantsN g g.wishes.length a b : Nat) : Int)) := by
 unfold refS
 constructor
 ·
  intro h
  split at h
  ·
   next h1 =>
   split at h
   ·
    next h2 => exact ⟨h1, h2, List.mem_singleton.1 h⟩
   ·
    cases h
  ·
   cases h
 ·
  rintro ⟨h1, h2, h3⟩
  rw [if_pos h1, if_pos h2]
  exact List.mem_singleton.2 h3
theorem clR_mem (g : Grd) (p : List Ses) (c : Clh) : c ∈ clR g p ↔ ∃ t ∈ g.talks, ∃ u ∈ g.talks, refB g p t.paper u.paper = true ∧ 0 < wantsN g g.wishes.length t.paper u.paper ∧ c = (t.paper, u.paper, ((wantsN g g.wishes.length t.paper u.paper : Nat) : Int)) := by
 unfold clR
 rw [clTo_flat g p _ (Nat.le_refl _), List.take_length, List.mem_flatMap]
 constructor
 ·
  rintro ⟨t, ht, h⟩
  rw [innTo_flat g p _ _ (Nat.le_refl _), List.take_length, List.mem_flatMap] at h
  obtain ⟨u, hu, h⟩ := h
  exact ⟨t, ht, u, hu, refS_mem.1 h⟩
 ·
  rintro ⟨t, ht, u, hu, h⟩
  refine ⟨t, ht, ?_⟩
  rw [innTo_flat g p _ _ (Nat.le_refl _), List.take_length, List.mem_flatMap]
  exact ⟨u, hu, refS_mem.2 h⟩
theorem clR_nd {g : Grd} (hn : (g.talks.map (·.paper)).Nodup) (p : List Ses) : (clR g p).Nodup := by
 unfold List.Nodup at hn
 rw [List.pairwise_map] at hn
 unfold clR
 rw [clTo_flat g p _ (Nat.le_refl _), List.take_length]
 unfold List.Nodup
 rw [List.pairwise_flatMap]
 have hfst : ∀ (a : ByteArray) (c : Clh), c ∈ innTo g p a g.talks.length → c.1 = a := by
  intro a c h
  rw [innTo_flat g p _ _ (Nat.le_refl _), List.take_length, List.mem_flatMap] at h
  obtain ⟨u, hu, h⟩ := h
  rw [(refS_mem.1 h).2.2]
 refine ⟨fun t ht => ?_, hn.imp (fun {t u} htu x hx y hy e => htu ?_)⟩
 ·
  rw [innTo_flat g p _ _ (Nat.le_refl _), List.take_length, List.pairwise_flatMap]
  refine ⟨fun u hu => ?_, hn.imp (fun {u v} huv x hx y hy e => huv ?_)⟩
  ·
   unfold refS
   split
   ·
    split
    ·
     exact List.pairwise_singleton _ _
    ·
     exact List.Pairwise.nil
   ·
    exact List.Pairwise.nil
  ·
   have h1 := (refS_mem.1 hx).2.2
   have h2 := (refS_mem.1 hy).2.2
   rw [e, h2] at h1
   exact (Prod.mk.inj (Prod.mk.inj h1).2).1.symm
 ·
  rw [← hfst _ _ hx, ← hfst _ _ hy, e]
theorem meetsB_comm (g : Grd) (a b : Ses) : meetsB g a b = meetsB g b a := by
 unfold meetsB overlapsB
 generalize slotOr g a.slot = x
 generalize slotOr g b.slot = y
 cases slotOut x <;> cases slotOut y <;> simp [Bool.and_comm]
theorem besTo_mem {g : Grd} {p : List Ses} {i : Nat} {y : Ses} {b : ByteArray} : ∀ k, k ≤ p.length → (b ∈ besTo g p i y k ↔ ∃ j, ∃ hj : j < p.length, j < k ∧ j ≠ i ∧ meetsB g p[j] y = true ∧ b ∈ p[j].papers)
 | 0, _ => by
  constructor
  ·
   intro h; cases h
  ·
   rintro ⟨j, _, h, _⟩; omega
 | k + 1, hk => by
  rw [besTo_succ (by omega : k < p.length), List.mem_append, besTo_mem k (by omega)]
  constructor
  ·
   rintro (⟨j, hj, h1, h2⟩ | h)
   ·
    exact ⟨j, hj, by omega, h2⟩
   ·
    split at h
    ·
     next h1 =>
     rw [Bool.and_eq_true] at h1
     exact ⟨k, by omega, by omega, by simpa using h1.1, h1.2, h⟩
    ·
     cases h
  ·
   rintro ⟨j, hj, h1, h2, h3, h4⟩
   by_cases hjk : j = k
   ·
    subst hjk
    right
    rw [if_pos (by rw [Bool.and_eq_true]; exact ⟨by simpa using h2, h3⟩)]
    exact h4
   ·
    exact .inl ⟨j, hj, by omega, h2, h3, h4⟩
theorem leB_ltS (a b : ByteArray) : leB b a = false ↔ ltS a b := by
 have h := leB_not b a
 rw [bl_lt, ByteArray.toList_eq, ByteArray.toList_eq] at h
 unfold ltS
 constructor
 ·
  intro h1
  rw [h1] at h
  exact of_decide_eq_true h
 ·
  intro h1
  rw [decide_eq_true h1] at h
  cases hq : leB b a
  ·
   rfl
  ·
   rw [hq] at h; exact absurd h (by decide)
theorem refB_iff {g : Grd} {p : List Ses} (hfm : firstErr (sesE g p) p.length = 0) (a b : ByteArray) : refB g p a b = true ↔ ltS a b ∧ clB g p a b = true := by
 unfold refB clB
 rw [Bool.and_eq_true, Bool.and_eq_true, Bool.and_eq_true, Bool.and_eq_true, Bool.and_eq_true, Bool.not_eq_true', leB_ltS, inB_iff]
 refine and_congr_right (fun _ => and_congr_right (fun ha => ?_))
 obtain ⟨i, hi, h1⟩ := inP_at ha
 obtain ⟨h2, h3⟩ := sesN_at hfm hi h1
 unfold besX
 rw [h2, h3, Int.toNat_natCast, besTo_mem _ (Nat.le_refl _)]
 constructor
 ·
  rintro ⟨j, hj, -, hji, hm, hb⟩
  have hb2 := inB_iff.2 hb
  obtain ⟨h4, h5⟩ := sesN_at hfm hj hb2
  rw [h4, h5]
  exact ⟨at_inP hj hb2, by simp; omega, by rw [meetsB_comm]; exact hm⟩
 ·
  rintro ⟨hb, hne, hm⟩
  obtain ⟨j, hj, hb2⟩ := inP_at hb
  obtain ⟨h4, h5⟩ := sesN_at hfm hj hb2
  rw [h4, meetsB_comm] at hm
  rw [h5] at hne
  refine ⟨j, hj, hj, fun e => ?_, hm, inB_iff.1 hb2⟩
  rw [e] at hne
  simp at hne
theorem rise_pw {ks : List ByteArray} (h : ∀ k, k < ks.length → ordB ks k = false) : ks.Pairwise ltS := by
 have hall : ∀ (k j : Nat) (hk : k < ks.length) (hj : j < k), ltS (ks[j]'(by omega)) ks[k] := by
  intro k
  induction k with
  | zero => intro j _ hj; omega
  | succ k ih =>
   intro j hk hj
   have hs := ordB_lt hk (h _ hk)
   by_cases hjk : j = k
   ·
    subst hjk; exact hs
   ·
    exact ltS_trans (ih j (by omega) (by omega)) hs
 rw [List.pairwise_iff_getElem]
 intro i j hi hj hij
 exact hall j i hj hij
theorem wishes_pw {g : Grd} (h : wishesFault g = 0) : ∀ x ∈ g.wishes, x.papers.Pairwise ltS := by
 unfold wishesFault at h
 split at h
 ·
  exact absurd h (by decide)
 ·
  intro x hx
  obtain ⟨n, hn, rfl⟩ := List.mem_iff_getElem.1 hx
  have h1 := firstErr_all h n hn
  unfold wishE at h1
  rw [List.getElem?_eq_getElem hn] at h1
  simp only at h1
  split at h1
  ·
   exact absurd h1 (by decide)
  ·
   split at h1
   ·
    exact absurd h1 (by decide)
   ·
    refine rise_pw (fun k hk => ?_)
    have h2 := firstErr_all h1 k hk
    unfold wpE at h2
    rw [List.getElem?_eq_getElem hk] at h2
    simp only at h2
    split at h2
    ·
     exact absurd h2 (by decide)
    ·
     split at h2
     ·
      exact absurd h2 (by decide)
     ·
      next h3 => simpa using h3
/-- Program and reference see the same clashes. -/
theorem clashes_same {g : Grd} {p : List Ses} (h0 : bothF g p = 0) : sortClh (clR g p) = sortClh (clP g p) := by
 have hfm := form_of (both_ok h0).2
 have hw := wishes_pw (grid_parts (both_ok h0).1).2.2.2.1
 have htk := fun s hs => (both_form h0 s hs).2
 have hin : ∀ x, inP p x = true → ∃ t ∈ g.talks, t.paper = x := by
  intro x hx
  obtain ⟨i, hi, h1⟩ := inP_at hx
  have h2 := htk _ (List.getElem_mem hi) x (inB_iff.1 h1)
  obtain ⟨t, ht⟩ := Option.isSome_iff_exists.1 h2
  exact ⟨t, List.mem_of_find?_eq_some ht, by have := List.find?_some ht; simpa using this⟩
 refine sortClh_perm ((List.perm_ext_iff_of_nodup (clR_nd (both_nd h0).talks p) (clP_nd g p)).2 (fun c => ?_))
 rw [clR_mem, clP_mem]
 constructor
 ·
  rintro ⟨t, ht, u, hu, hr, hp, rfl⟩
  obtain ⟨h1, h2⟩ := (refB_iff hfm _ _).1 hr
  have h3 := evT_cnt hw _ _ h1 h2 g.wishes.length (Nat.le_refl _)
  rw [h3]
  exact ⟨by omega, rfl⟩
 ·
  rintro ⟨h1, h2⟩
  obtain ⟨a, b, n⟩ := c
  simp only at h1 h2
  by_cases hq : ltS a b ∧ clB g p a b = true
  ·
   have h3 := evT_cnt hw _ _ hq.1 hq.2 g.wishes.length (Nat.le_refl _)
   rw [h3] at h1 h2
   have hc := hq.2
   unfold clB at hc
   rw [Bool.and_eq_true, Bool.and_eq_true] at hc
   obtain ⟨t, ht, rfl⟩ := hin a hc.1
   obtain ⟨u, hu, rfl⟩ := hin b hc.2.1
   exact ⟨t, ht, u, hu, (refB_iff hfm _ _).2 hq, by omega, by rw [h2]⟩
  ·
   exact absurd (evT_none hw _ _ hq g.wishes.length (Nat.le_refl _)) h1
/-- The sums as the machine makes them. -/
def wA (a b : Int) : Int := wrap64 (a + b)
def wM (a b : Int) : Int := wrap64 (a * b)
theorem wrap_to64 (n : Int) : IntKind.i64.wrap n = wrap64 n := by unfold wrap64; exact IntKind.wrap_i64 n
theorem wA_eq (a b : Int) : wA a b = wrap64 (a + b) := rfl
theorem wM_eq (a b : Int) : wM a b = wrap64 (a * b) := rfl
def sumC (n : Int) (l : List Clh) (k : Nat) : Int := (l.take k).foldl (fun a c => wA a (wM 100 c.2.2)) n
def sumR (n : Int) (l : List Crd) (k : Nat) : Int := (l.take k).foldl (fun a c => wA a c.2.2.2) n
theorem sumC_succ {n : Int} {l : List Clh} {k : Nat} (h : k < l.length) : sumC n l (k + 1) = wA (sumC n l k) (wM 100 l[k].2.2) := by
 unfold sumC
 rw [List.take_succ_eq_append_getElem h, List.foldl_append]; rfl
theorem sumR_succ {n : Int} {l : List Crd} {k : Nat} (h : k < l.length) : sumR n l (k + 1) = wA (sumR n l k) l[k].2.2.2 := by
 unfold sumR
 rw [List.take_succ_eq_append_getElem h, List.foldl_append]; rfl
def sumS (m : Nat) (x : Int) : Int := wA (1000 * (m : Int)) (wM 10 x)
theorem sumR_zero (n : Int) (l : List Crd) : sumR n l 0 = n := rfl
theorem sumC_zero (m : Nat) (x : Int) (l : List Clh) : sumC (sumS m x) l 0 = wrap64 (1000 * (m : Int) + wrap64 (10 * x)) := by
 show sumS m x = _
 unfold sumS
 rw [wA_eq, wM_eq]
def costZ (m : Nat) (x : Int) (c : List Clh) (r : List Crd) : Int := sumR (sumC (sumS m x) c c.length) r r.length
theorem missL_len {g : Grd} (hz : GSm g) (p : List Ses) : (missL g p).length ≤ 1000 := by
 have h1 := missTo_len g p g.talks.length
 have h2 := hz.talks
 unfold missTo at h1
 rw [List.take_length] at h1
 unfold missL
 omega
theorem crowdL_len (g : Grd) (p : List Ses) : (crowdL g p).length ≤ p.length := crowdTo_len g p p.length
theorem both_rn {g : Grd} {p : List Ses} (h : bothF g p = 0) : (g.rooms.map (·.1)).Nodup := rooms_nd (grid_parts (both_ok h).1).1
theorem clP_len {g : Grd} (hz : GSm g) (hwl : g.wishes.length ≤ 50) (p : List Ses) : (sortClh (clP g p)).length ≤ 100000000 := by
 rw [sortClh_len]
 unfold clP
 rw [List.length_map]
 exact Nat.le_trans (cM_len _) (Nat.le_trans (evT_len hz p _ (Nat.le_refl _)) (by omega))
theorem clR_len {g : Grd} (hz : GSm g) (p : List Ses) : (sortClh (clR g p)).length ≤ 100000000 := by
 rw [sortClh_len]
 exact Nat.le_trans (clTo_len g p _ (Nat.le_refl _)) (Nat.le_trans (Nat.mul_le_mul hz.talks hz.talks) (by decide))
def NumRes (g : Grd) (p : List Ses) (n : Int) (w : World) (e : Ending) (w' : World) : Prop :=
 Below w.heap.size w w' ∧ ((bothF g p ≠ 0 ∧ e = .returned (.tuple #[.int .i64 0, .int .i64 (bothF g p)])) ∨ (bothF g p = 0 ∧ e = .returned (.tuple #[.int .i64 n, .int .i64 0])))
set_option maxRecDepth 100000 in
set_option maxHeartbeats 4000000 in
theorem costP_any (g : Grd) (fb br bs bt bb : Nat) (p : List Ses) (pa : Option Addr) (pc : Nat) (w : World) (hF : FieldAt g fb br bs bt bb w) (hg : GRd w g) (hz : GSm g) (hr : ∀ x ∈ g.rooms, RomOk x) (hp : PRg w pa p) (hpl : p.length ≤ 1000) (hpo : ∀ s ∈ p, SesOk s) (hpc : p.length ≤ pc) (hcp : ∀ s ∈ p, s.papers.length ≤ s.c1) (hwc : ∀ x ∈ g.wishes, x.papers.length ≤ x.c1) (hwl : g.wishes.length ≤ 50) (h0 : bothF g p = 0) :
  Calls Tryz.prog 83 #[.pointer (some ⟨fb, 0, none⟩), .slice pa p.length pc] w (Gives (.int .i64 (costZ (missL g p).length (mixN g p : Nat) (sortClh (clP g p)) (crowdL g p))) w) := by
 have hfm := form_of (both_ok h0).2
 have HMI := Lib.hid (fun W (h : Below w.heap.size w W) => missing_any g fb br bs bt bb p pa pc W (hF.below h) (hg.below h) hz (hp.below h) (by omega) hpo)
 have HMX := Lib.hid (fun W (h : Below w.heap.size w W) => mixedP_any g fb br bs bt bb p pa pc W (hF.below h) (hg.below h) hz (both_nd h0) (hp.below h) hpl hpo (fun s hs => (both_form h0 s hs).2) hcp)
 have HCL := Lib.hid (fun W (h : Below w.heap.size w W) => clashesP_any g fb br bs bt bb p pa pc W (hF.below h) (hg.below h) hz (both_nd h0) (hp.below h) hpl hpo hfm hwc hwl)
 have HCR := Lib.hid (fun W (h : Below w.heap.size w W) => crowdP_any g fb br bs bt bb p pa pc W (hF.below h) (hg.below h) hz hr (hp.below h) hpl hpo (both_rn h0) hfm)
 have hml := missL_len hz p
 have hcl := clP_len hz hwl p
 have hrl := crowdL_len g p
 have HR : Hid (costZ (missL g p).length (mixN g p : Nat) (sortClh (clP g p)) (crowdL g p) = sumR (sumC (sumS (missL g p).length (mixN g p : Nat)) (sortClh (clP g p)) (sortClh (clP g p)).length) (crowdL g p) (crowdL g p).length) := by show _ = _; unfold costZ; rfl
 generalize costZ (missL g p).length (mixN g p : Nat) (sortClh (clP g p)) (crowdL g p) = Z at *
 generalize hmq : ((mixN g p : Nat) : Int) = mx at *
 generalize missL g p = ml at *
 generalize sortClh (clP g p) = cl at *
 generalize crowdL g p = rl at *
 clear hF hg hz hp hpo hcp hwc hfm h0 hmq hr
 go_enter Tryz.func83, Tryz.ntmps83
 go_wp2_with fail
 refine (HMI.out _ (Below.refl _ _)).mono ?_
 rintro e w1 ⟨v1, rfl, hown, hb1⟩
 obtain ⟨va, vc, rfl, -, -, -⟩ := hown.form
 clear hown HMI
 go_wp2_with fail
 refine (HMX.out _ hb1).mono ?_
 rintro e w2 ⟨rfl, hb2⟩
 replace hb2 := below_next hb1 hb2
 clear HMX hb1
 go_wp2_with fail
 refine (HCL.out _ hb2).mono ?_
 rintro e w3 ⟨v3, rfl, hown, hb3⟩
 obtain ⟨sa3, sc3, rfl, hs, -, -⟩ := hown.form
 have hb := below_next hb2 hb3
 clear hown HCL hb2 hb3
 go_wp2_with fail
 go_loopg [5, 24] cl.length (fun gk nv iv wr => ∃ k : Nat, nv = .int .i64 (sumC (sumS ml.length mx) cl k) ∧ iv = .int .i64 k ∧ k ≤ cl.length ∧ Hid (gk = cl.length - k) ∧ SA wr sa3 cl ∧ Below w.heap.size w wr)
 case atStart => exact ⟨0, by rw [sumC_zero], rfl, by omega, rfl, hs, hb⟩
 case round =>
  clear hs hb
  obtain ⟨k, rfl, rfl, hk, hgk, hs, hb⟩ := hrel
  by_cases hlt : k < cl.length
  ·
   obtain ⟨b, off, ha, c0, c1, c2⟩ := hs.clhC hlt
   have Hsu := Lib.hid (sumC_succ (n := (sumS ml.length mx)) hlt)
   have Ha := Lib.hid ha
   generalize sumC (sumS ml.length mx) cl k = S at *
   generalize cl[k] = x at *
   obtain ⟨x1, x2, x3⟩ := x
   simp only at c0 c1 c2 Hsu
   rw [ha]
   clear ha
   go_upto_region 5 with (fail)
   have hE := Box.new wr 66 #[.string x1, .string x2, .int .i64 x3]
   have hs2 := hs.alloc (.cells #[.string x1, .string x2, .int .i64 x3] 66)
   have hb2 := hb.alloc hb.size (.cells #[.string x1, .string x2, .int .i64 x3] 66)
   clear hs hb c0 c1 c2
   generalize wr.alloc (.cells #[.string x1, .string x2, .int .i64 x3] 66) = w9 at *
   generalize wr.heap.size = n9 at *
   have hE_l := hE.lt; have hE_0 := hE.cell 0; have hE_1 := hE.cell 1; have hE_2 := hE.cell 2; simp at hE_0 hE_1 hE_2
   go_wp2_with fail
   rw [← Ha.out]
   go_roundg (cl.length - (k + 1))
   case measure => have := hgk.out; omega
   case rel => exact ⟨k + 1, by rw [Hsu.out, wA_eq, wM_eq], by go_num, by omega, rfl, hs2, hb2⟩
  ·
   obtain rfl : k = cl.length := by omega
   clear hs
   generalize sumC (sumS ml.length mx) cl cl.length = S3 at *
   go_wp2_with fail
   refine (HCR.out _ hb).mono ?_
   rintro e w4 ⟨v4, rfl, hown, hb4⟩
   obtain ⟨sa4, sc4, rfl, hs, -, -⟩ := hown.form
   replace hb := below_next hb hb4
   clear hown HCR hb4
   go_wp2_with fail
   go_loopg [5, 38] rl.length (fun gk nv iv wr => ∃ k : Nat, nv = .int .i64 (sumR S3 rl k) ∧ iv = .int .i64 k ∧ k ≤ rl.length ∧ Hid (gk = rl.length - k) ∧ SA wr sa4 rl ∧ Below w.heap.size w wr)
   case atStart => exact ⟨0, by rw [sumR_zero], rfl, by omega, rfl, hs, hb⟩
   case round =>
    clear hs hb
    obtain ⟨k, rfl, rfl, hk, hgk, hs, hb⟩ := hrel
    by_cases hlt : k < rl.length
    ·
     obtain ⟨b, off, ha, c0, c1, c2, c3⟩ := hs.crdC hlt
     have Hsu := Lib.hid (sumR_succ (n := S3) hlt)
     have Ha := Lib.hid ha
     generalize sumR S3 rl k = S at *
     generalize rl[k] = x at *
     obtain ⟨x1, x2, x3, x4⟩ := x
     simp only at c0 c1 c2 c3 Hsu
     rw [ha]
     clear ha
     go_upto_region 10 with (fail)
     have hE := Box.new wr 71 #[.string x1, .string x2, .int .i64 x3, .int .i64 x4]
     have hs2 := hs.alloc (.cells #[.string x1, .string x2, .int .i64 x3, .int .i64 x4] 71)
     have hb2 := hb.alloc hb.size (.cells #[.string x1, .string x2, .int .i64 x3, .int .i64 x4] 71)
     clear hs hb c0 c1 c2 c3
     generalize wr.alloc (.cells #[.string x1, .string x2, .int .i64 x3, .int .i64 x4] 71) = w9 at *
     generalize wr.heap.size = n9 at *
     have hE_l := hE.lt; have hE_0 := hE.cell 0; have hE_1 := hE.cell 1; have hE_2 := hE.cell 2; have hE_3 := hE.cell 3; simp at hE_0 hE_1 hE_2 hE_3
     go_wp2_with fail
     rw [← Ha.out]
     go_roundg (rl.length - (k + 1))
     case measure => have := hgk.out; omega
     case rel => exact ⟨k + 1, by rw [Hsu.out, wA_eq], by go_num, by omega, rfl, hs2, hb2⟩
    ·
     obtain rfl : k = rl.length := by omega
     rw [← HR.out]
     go_wp2_with fail
     go_ret
     exact ⟨rfl, hb⟩
set_option maxRecDepth 100000 in
set_option maxHeartbeats 4000000 in
theorem costOf_any (g : Grd) (p : List Ses) (pa : Option Addr) (pc : Nat) (w : World) (hg : GRd w g) (hz : GSm g) (hr : ∀ x ∈ g.rooms, RomOk x) (hp : PRg w pa p) (hpl : p.length ≤ 1000) (hpo : ∀ s ∈ p, SesOk s) (hpc : p.length ≤ pc) (hcp : ∀ s ∈ p, s.papers.length ≤ s.c1) (hwc : ∀ x ∈ g.wishes, x.papers.length ≤ x.c1) (hwl : g.wishes.length ≤ 50) (h0 : bothF g p = 0) :
  Calls Tryz.prog 32 #[g.agg, .slice pa p.length pc] w (Gives (.int .i64 (costZ (missL g p).length (mixN g p : Nat) (sortClh (clR g p)) (crowdL g p))) w) := by
 have hfm := form_of (both_ok h0).2
 have HMI := Lib.hid (fun W (h : Below w.heap.size w W) => missingOf_any g p pa pc W (hg.below h) hz (hp.below h) (by omega) hpo)
 have HMX := Lib.hid (fun W (h : Below w.heap.size w W) => mixedOf_any g p pa pc W (hg.below h) hz (hp.below h) hpl hpo hcp)
 have HCL := Lib.hid (fun W (h : Below w.heap.size w W) => clashesOf_any g p pa pc W (hg.below h) hz (hp.below h) hpl hpo hfm)
 have HCR := Lib.hid (fun W (h : Below w.heap.size w W) => crowdsOf_any g p pa pc W (hg.below h) hz hr (hp.below h) hpl hpo)
 have hml := missL_len hz p
 have hcl := clR_len hz p
 have hrl := crowdL_len g p
 have HR : Hid (costZ (missL g p).length (mixN g p : Nat) (sortClh (clR g p)) (crowdL g p) = sumR (sumC (sumS (missL g p).length (mixN g p : Nat)) (sortClh (clR g p)) (sortClh (clR g p)).length) (crowdL g p) (crowdL g p).length) := by show _ = _; unfold costZ; rfl
 generalize costZ (missL g p).length (mixN g p : Nat) (sortClh (clR g p)) (crowdL g p) = Z at *
 generalize hmq : ((mixN g p : Nat) : Int) = mx at *
 generalize missL g p = ml at *
 generalize sortClh (clR g p) = cl at *
 generalize crowdL g p = rl at *
 clear hg hz hp hpo hcp hwc hfm h0 hmq hr
 rw [Grd.agg_eq] at HMI HMX HCL HCR ⊢
 have hX := Box.new w 32 #[.slice g.ra g.rooms.length g.rc, .slice g.sa g.slots.length g.sc, .slice g.ta g.talks.length g.tc, .slice g.wa g.wishes.length g.wc, .slice g.ba g.bans.length g.bc]
 have hb0 : Below w.heap.size w (w.alloc (.cells #[.slice g.ra g.rooms.length g.rc, .slice g.sa g.slots.length g.sc, .slice g.ta g.talks.length g.tc, .slice g.wa g.wishes.length g.wc, .slice g.ba g.bans.length g.bc] 32)) := (Below.refl _ _).alloc (Nat.le_refl _) _
 go_enter Tryz.func32, Tryz.ntmps32
 go_upto_region 1 with (fail)
 generalize w.alloc (.cells #[.slice g.ra g.rooms.length g.rc, .slice g.sa g.slots.length g.sc, .slice g.ta g.talks.length g.tc, .slice g.wa g.wishes.length g.wc, .slice g.ba g.bans.length g.bc] 32) = w0 at *
 have hX_0 := hX.cell 0
 have hX_1 := hX.cell 1
 have hX_2 := hX.cell 2
 have hX_3 := hX.cell 3
 have hX_4 := hX.cell 4
 simp at hX_0 hX_1 hX_2 hX_3 hX_4
 refine wp_region_held_drew (S := (fun wx => wx.cell? ⟨w.heap.size, 0, none⟩ = some (.slice g.ra g.rooms.length g.rc) ∧ wx.cell? ⟨w.heap.size, 1, none⟩ = some (.slice g.sa g.slots.length g.sc) ∧ wx.cell? ⟨w.heap.size, 2, none⟩ = some (.slice g.ta g.talks.length g.tc) ∧ wx.cell? ⟨w.heap.size, 3, none⟩ = some (.slice g.wa g.wishes.length g.wc) ∧ wx.cell? ⟨w.heap.size, 4, none⟩ = some (.slice g.ba g.bans.length g.bc) ∧ Below w0.heap.size w0 wx)) (by kernel_rfl) ?hS (fun hHeld => ?_)
 case hS => exact ⟨hX_0, hX_1, hX_2, hX_3, hX_4, (Below.refl _ _).drew⟩
 refine rt 0 (some 10) ?_
 refine rt 1 (some 11) ?_
 refine rt 5 (some 15) ?_
 refine rt 6 (some 16) ?_
 refine rcall (i := 2) (d := (some 12)) (by kernel_rfl) rfl (by kernel_rfl) (fun K hK => ?_)
 rw [if_pos (by kernel_rfl)]; go_simp; go_at_call 39; refine (HMI.out _ (below_next hb0 hHeld.2.2.2.2.2)).mono ?_; rintro e w1 ⟨v1, rfl, hown, hb1⟩; obtain ⟨va, vc, rfl, -, -, -⟩ := hown.form
 refine hK.out _ _ ?hS (fun hHeld => ?_)
 case hS => exact ⟨cell_later hb1 hHeld.1, cell_later hb1 hHeld.2.1, cell_later hb1 hHeld.2.2.1, cell_later hb1 hHeld.2.2.2.1, cell_later hb1 hHeld.2.2.2.2.1, below_next hHeld.2.2.2.2.2 hb1⟩
 clear hK K
 simp only [Act.put, lsetA, lsetZ, lsetS]
 refine rt 3 (some 13) ?_
 refine rt 4 (some 14) ?_
 refine rcall (i := 7) (d := (some 17)) (by kernel_rfl) rfl (by kernel_rfl) (fun K hK => ?_)
 rw [if_pos (by kernel_rfl)]; go_simp; go_at_call 29; refine (HMX.out _ (below_next hb0 hHeld.2.2.2.2.2)).mono ?_; rintro e w2 ⟨rfl, hb2⟩
 refine hK.out _ _ ?hS (fun hHeld => ?_)
 case hS => exact ⟨cell_later hb2 hHeld.1, cell_later hb2 hHeld.2.1, cell_later hb2 hHeld.2.2.1, cell_later hb2 hHeld.2.2.2.1, cell_later hb2 hHeld.2.2.2.2.1, below_next hHeld.2.2.2.2.2 hb2⟩
 clear hK K
 simp only [Act.put, lsetA, lsetZ, lsetS]
 refine rt 8 (some 18) ?_
 refine rt 9 (some 19) ?_
 refine rt 10 (some 5) ?_
 refine wpAnyH_done (by kernel_rfl) ?_ _
 have hb3 := below_next hb0 hHeld.2.2.2.2.2
 replace hX := hX.below hHeld.2.2.2.2.2
 clear hHeld hb0 hX_0 hX_1 hX_2 hX_3 hX_4 HMI HMX hown hb1 hb2
 have hb2 := hb3
 clear hb3
 have hw1 : IntKind.i64.wrap (1000 * (ml.length : Int)) = 1000 * (ml.length : Int) := IntWalk.i64_in _ (by omega)
 have hX_l := hX.lt; have hX_0 := hX.cell 0; have hX_1 := hX.cell 1; have hX_2 := hX.cell 2; have hX_3 := hX.cell 3; have hX_4 := hX.cell 4; simp at hX_0 hX_1 hX_2 hX_3 hX_4
 go_wp2_with fail
 clear hX_l hX_0 hX_1 hX_2 hX_3 hX_4
 refine (HCL.out _ hb2).mono ?_
 rintro e w3 ⟨v3, rfl, hown, hb3⟩
 obtain ⟨sa3, sc3, rfl, hs, -, -⟩ := hown.form
 have hb := below_next hb2 hb3
 replace hX := hX.below hb3
 clear hown HCL hb2 hb3
 go_wp2_with fail
 go_loopg [5, 24] cl.length (fun gk nv iv wr => ∃ k : Nat, nv = .int .i64 (sumC (sumS ml.length mx) cl k) ∧ iv = .int .i64 k ∧ k ≤ cl.length ∧ Hid (gk = cl.length - k) ∧ SA wr sa3 cl ∧ Box wr w.heap.size 32 #[.slice g.ra g.rooms.length g.rc, .slice g.sa g.slots.length g.sc, .slice g.ta g.talks.length g.tc, .slice g.wa g.wishes.length g.wc, .slice g.ba g.bans.length g.bc] ∧ Below w.heap.size w wr)
 case atStart => exact ⟨0, by rw [sumC_zero, wrap_to64, wrap_to64], rfl, by omega, rfl, hs, hX, hb⟩
 case round =>
  clear hs hb hX
  obtain ⟨k, rfl, rfl, hk, hgk, hs, hX, hb⟩ := hrel
  by_cases hlt : k < cl.length
  ·
   obtain ⟨b, off, ha, c0, c1, c2⟩ := hs.clhC hlt
   have Hsu := Lib.hid (sumC_succ (n := (sumS ml.length mx)) hlt)
   have Ha := Lib.hid ha
   generalize sumC (sumS ml.length mx) cl k = S at *
   generalize cl[k] = x at *
   obtain ⟨x1, x2, x3⟩ := x
   simp only at c0 c1 c2 Hsu
   rw [ha]
   clear ha
   go_upto_region 5 with (fail)
   have hE := Box.new wr 66 #[.string x1, .string x2, .int .i64 x3]
   have hs2 := hs.alloc (.cells #[.string x1, .string x2, .int .i64 x3] 66)
   have hb2 := hb.alloc hb.size (.cells #[.string x1, .string x2, .int .i64 x3] 66)
   have hX2 := hX.alloc (.cells #[.string x1, .string x2, .int .i64 x3] 66)
   clear hs hb hX c0 c1 c2
   generalize wr.alloc (.cells #[.string x1, .string x2, .int .i64 x3] 66) = w9 at *
   generalize wr.heap.size = n9 at *
   have hE_l := hE.lt; have hE_0 := hE.cell 0; have hE_1 := hE.cell 1; have hE_2 := hE.cell 2; simp at hE_0 hE_1 hE_2
   go_wp2_with fail
   rw [← Ha.out]
   go_roundg (cl.length - (k + 1))
   case measure => have := hgk.out; omega
   case rel => exact ⟨k + 1, by rw [Hsu.out, wA_eq, wM_eq], by go_num, by omega, rfl, hs2, hX2, hb2⟩
  ·
   obtain rfl : k = cl.length := by omega
   clear hs
   generalize sumC (sumS ml.length mx) cl cl.length = S3 at *
   have hX_l := hX.lt; have hX_0 := hX.cell 0; have hX_1 := hX.cell 1; have hX_2 := hX.cell 2; have hX_3 := hX.cell 3; have hX_4 := hX.cell 4; simp at hX_0 hX_1 hX_2 hX_3 hX_4
   go_wp2_with fail
   clear hX_l hX_0 hX_1 hX_2 hX_3 hX_4
   refine (HCR.out _ hb).mono ?_
   rintro e w4 ⟨v4, rfl, hown, hb4⟩
   obtain ⟨sa4, sc4, rfl, hs, -, -⟩ := hown.form
   replace hX := hX.below hb4
   replace hb := below_next hb hb4
   clear hown HCR hb4
   go_wp2_with fail
   go_loopg [5, 38] rl.length (fun gk nv iv wr => ∃ k : Nat, nv = .int .i64 (sumR S3 rl k) ∧ iv = .int .i64 k ∧ k ≤ rl.length ∧ Hid (gk = rl.length - k) ∧ SA wr sa4 rl ∧ Box wr w.heap.size 32 #[.slice g.ra g.rooms.length g.rc, .slice g.sa g.slots.length g.sc, .slice g.ta g.talks.length g.tc, .slice g.wa g.wishes.length g.wc, .slice g.ba g.bans.length g.bc] ∧ Below w.heap.size w wr)
   case atStart => exact ⟨0, by rw [sumR_zero], rfl, by omega, rfl, hs, hX, hb⟩
   case round =>
    clear hs hb hX
    obtain ⟨k, rfl, rfl, hk, hgk, hs, hX, hb⟩ := hrel
    by_cases hlt : k < rl.length
    ·
     obtain ⟨b, off, ha, c0, c1, c2, c3⟩ := hs.crdC hlt
     have Hsu := Lib.hid (sumR_succ (n := S3) hlt)
     have Ha := Lib.hid ha
     generalize sumR S3 rl k = S at *
     generalize rl[k] = x at *
     obtain ⟨x1, x2, x3, x4⟩ := x
     simp only at c0 c1 c2 c3 Hsu
     rw [ha]
     clear ha
     go_upto_region 10 with (fail)
     have hE := Box.new wr 71 #[.string x1, .string x2, .int .i64 x3, .int .i64 x4]
     have hs2 := hs.alloc (.cells #[.string x1, .string x2, .int .i64 x3, .int .i64 x4] 71)
     have hb2 := hb.alloc hb.size (.cells #[.string x1, .string x2, .int .i64 x3, .int .i64 x4] 71)
     have hX2 := hX.alloc (.cells #[.string x1, .string x2, .int .i64 x3, .int .i64 x4] 71)
     clear hs hb hX c0 c1 c2 c3
     generalize wr.alloc (.cells #[.string x1, .string x2, .int .i64 x3, .int .i64 x4] 71) = w9 at *
     generalize wr.heap.size = n9 at *
     have hE_l := hE.lt; have hE_0 := hE.cell 0; have hE_1 := hE.cell 1; have hE_2 := hE.cell 2; have hE_3 := hE.cell 3; simp at hE_0 hE_1 hE_2 hE_3
     go_wp2_with fail
     rw [← Ha.out]
     go_roundg (rl.length - (k + 1))
     case measure => have := hgk.out; omega
     case rel => exact ⟨k + 1, by rw [Hsu.out, wA_eq], by go_num, by omega, rfl, hs2, hX2, hb2⟩
    ·
     obtain rfl : k = rl.length := by omega
     rw [← HR.out]
     go_wp2_with fail
     go_ret
     exact ⟨rfl, hb⟩
set_option maxRecDepth 100000 in
set_option maxHeartbeats 4000000 in
theorem clashesF_any (g : Grd) (p : List Ses) (pa : Option Addr) (pc : Nat) (w : World) (hg : GRd w g) (hz : GSm g) (hr : ∀ x ∈ g.rooms, RomOk x) (hp : PRg w pa p) (hpl : p.length ≤ 1000) (hpo : ∀ s ∈ p, SesOk s) (hpc : p.length ≤ pc) (hcp : ∀ s ∈ p, s.papers.length ≤ s.c1) (hwc : ∀ x ∈ g.wishes, x.papers.length ≤ x.c1) (hwl : g.wishes.length ≤ 50) :
  Calls Tryz.prog 23 #[g.agg, .slice pa p.length pc] w (ListRes 66 g p (sortClh (clP g p)) w) := by
 have HC := Lib.hid (fun W (h : Below w.heap.size w W) => checkedP_any g p pa pc W (hg.below h) hz (hp.below h) (by omega) hpo hpc)
 have HK := Lib.hid (fun (h0 : bothF g p = 0) fb br bs bt bb W (hF : FieldAt g fb br bs bt bb W) (h : Below w.heap.size w W) => clashesP_any g fb br bs bt bb p pa pc W hF (hg.below h) hz (both_nd h0) (hp.below h) hpl hpo (form_of (both_ok h0).2) hwc hwl)
 unfold CheckedRes at HC
 unfold ListRes
 generalize bothF g p = R at *
 clear hg hz hp hpo hcp hwc hr
 rw [Grd.agg_eq] at HC ⊢
 have hX := Box.new w 32 #[.slice g.ra g.rooms.length g.rc, .slice g.sa g.slots.length g.sc, .slice g.ta g.talks.length g.tc, .slice g.wa g.wishes.length g.wc, .slice g.ba g.bans.length g.bc]
 have hb0 : Below w.heap.size w (w.alloc (.cells #[.slice g.ra g.rooms.length g.rc, .slice g.sa g.slots.length g.sc, .slice g.ta g.talks.length g.tc, .slice g.wa g.wishes.length g.wc, .slice g.ba g.bans.length g.bc] 32)) := (Below.refl _ _).alloc (Nat.le_refl _) _
 go_enter Tryz.func23, Tryz.ntmps23
 go_upto_region 1 with (fail)
 generalize w.alloc (.cells #[.slice g.ra g.rooms.length g.rc, .slice g.sa g.slots.length g.sc, .slice g.ta g.talks.length g.tc, .slice g.wa g.wishes.length g.wc, .slice g.ba g.bans.length g.bc] 32) = w1 at *
 have hX_l := hX.lt; have hX_0 := hX.cell 0; have hX_1 := hX.cell 1; have hX_2 := hX.cell 2; have hX_3 := hX.cell 3; have hX_4 := hX.cell 4; simp at hX_0 hX_1 hX_2 hX_3 hX_4
 go_wp2_with fail
 clear hX_l hX_0 hX_1 hX_2 hX_3 hX_4
 refine (HC.out _ hb0).mono ?_
 rintro e w2 ⟨hb1, h⟩
 replace hb1 := below_next hb0 hb1
 clear HC hb0 hX
 rcases h with ⟨h0, rfl⟩ | ⟨rfl, fb, br, bs, bt, bb, rfl, hF, -⟩
 ·
  have hq : (R != 0) = true := by simpa using h0
  have H0 := Lib.hid h0
  clear h0
  go_wp2_with fail
  refine bodyPost_ret (v := .tuple #[.slice none 0 0, .int .i64 R]) (by simp only [results, Tryz.results23]; go_simp) rfl ?_
  exact ⟨hb1, .inl ⟨H0.out, rfl⟩⟩
 ·
  go_wp2_with fail
  refine (HK.out trivial _ _ _ _ _ _ hF hb1).mono ?_
  rintro e w3 ⟨v, rfl, hown, hb3⟩
  have hb4 := below_next hb1 hb3
  have hown4 := hown.mono hb1.size
  clear hF hb3 hown
  go_wp2_with fail
  refine bodyPost_ret (v := .tuple #[v, .int .i64 0]) (by simp only [results, Tryz.results23]; go_simp) rfl ?_
  exact ⟨hb4, v, rfl, hown4⟩
set_option maxRecDepth 100000 in
set_option maxHeartbeats 4000000 in
theorem crowdF_any (g : Grd) (p : List Ses) (pa : Option Addr) (pc : Nat) (w : World) (hg : GRd w g) (hz : GSm g) (hr : ∀ x ∈ g.rooms, RomOk x) (hp : PRg w pa p) (hpl : p.length ≤ 1000) (hpo : ∀ s ∈ p, SesOk s) (hpc : p.length ≤ pc) (hcp : ∀ s ∈ p, s.papers.length ≤ s.c1) (hwc : ∀ x ∈ g.wishes, x.papers.length ≤ x.c1) (hwl : g.wishes.length ≤ 50) :
  Calls Tryz.prog 25 #[g.agg, .slice pa p.length pc] w (ListRes 71 g p (crowdL g p) w) := by
 have HC := Lib.hid (fun W (h : Below w.heap.size w W) => checkedP_any g p pa pc W (hg.below h) hz (hp.below h) (by omega) hpo hpc)
 have HK := Lib.hid (fun (h0 : bothF g p = 0) fb br bs bt bb W (hF : FieldAt g fb br bs bt bb W) (h : Below w.heap.size w W) => crowdP_any g fb br bs bt bb p pa pc W hF (hg.below h) hz hr (hp.below h) hpl hpo (both_rn h0) (form_of (both_ok h0).2))
 unfold CheckedRes at HC
 unfold ListRes
 generalize bothF g p = R at *
 clear hg hz hp hpo hcp hwc hr
 rw [Grd.agg_eq] at HC ⊢
 have hX := Box.new w 32 #[.slice g.ra g.rooms.length g.rc, .slice g.sa g.slots.length g.sc, .slice g.ta g.talks.length g.tc, .slice g.wa g.wishes.length g.wc, .slice g.ba g.bans.length g.bc]
 have hb0 : Below w.heap.size w (w.alloc (.cells #[.slice g.ra g.rooms.length g.rc, .slice g.sa g.slots.length g.sc, .slice g.ta g.talks.length g.tc, .slice g.wa g.wishes.length g.wc, .slice g.ba g.bans.length g.bc] 32)) := (Below.refl _ _).alloc (Nat.le_refl _) _
 go_enter Tryz.func25, Tryz.ntmps25
 go_upto_region 1 with (fail)
 generalize w.alloc (.cells #[.slice g.ra g.rooms.length g.rc, .slice g.sa g.slots.length g.sc, .slice g.ta g.talks.length g.tc, .slice g.wa g.wishes.length g.wc, .slice g.ba g.bans.length g.bc] 32) = w1 at *
 have hX_l := hX.lt; have hX_0 := hX.cell 0; have hX_1 := hX.cell 1; have hX_2 := hX.cell 2; have hX_3 := hX.cell 3; have hX_4 := hX.cell 4; simp at hX_0 hX_1 hX_2 hX_3 hX_4
 go_wp2_with fail
 clear hX_l hX_0 hX_1 hX_2 hX_3 hX_4
 refine (HC.out _ hb0).mono ?_
 rintro e w2 ⟨hb1, h⟩
 replace hb1 := below_next hb0 hb1
 clear HC hb0 hX
 rcases h with ⟨h0, rfl⟩ | ⟨rfl, fb, br, bs, bt, bb, rfl, hF, -⟩
 ·
  have hq : (R != 0) = true := by simpa using h0
  have H0 := Lib.hid h0
  clear h0
  go_wp2_with fail
  refine bodyPost_ret (v := .tuple #[.slice none 0 0, .int .i64 R]) (by simp only [results, Tryz.results25]; go_simp) rfl ?_
  exact ⟨hb1, .inl ⟨H0.out, rfl⟩⟩
 ·
  go_wp2_with fail
  refine (HK.out trivial _ _ _ _ _ _ hF hb1).mono ?_
  rintro e w3 ⟨v, rfl, hown, hb3⟩
  have hb4 := below_next hb1 hb3
  have hown4 := hown.mono hb1.size
  clear hF hb3 hown
  go_wp2_with fail
  refine bodyPost_ret (v := .tuple #[v, .int .i64 0]) (by simp only [results, Tryz.results25]; go_simp) rfl ?_
  exact ⟨hb4, v, rfl, hown4⟩
set_option maxRecDepth 100000 in
set_option maxHeartbeats 4000000 in
theorem mixedF_any (g : Grd) (p : List Ses) (pa : Option Addr) (pc : Nat) (w : World) (hg : GRd w g) (hz : GSm g) (hr : ∀ x ∈ g.rooms, RomOk x) (hp : PRg w pa p) (hpl : p.length ≤ 1000) (hpo : ∀ s ∈ p, SesOk s) (hpc : p.length ≤ pc) (hcp : ∀ s ∈ p, s.papers.length ≤ s.c1) (hwc : ∀ x ∈ g.wishes, x.papers.length ≤ x.c1) (hwl : g.wishes.length ≤ 50) :
  Calls Tryz.prog 24 #[g.agg, .slice pa p.length pc] w (NumRes g p ((mixN g p : Nat)) w) := by
 have HC := Lib.hid (fun W (h : Below w.heap.size w W) => checkedP_any g p pa pc W (hg.below h) hz (hp.below h) (by omega) hpo hpc)
 have HK := Lib.hid (fun (h0 : bothF g p = 0) fb br bs bt bb W (hF : FieldAt g fb br bs bt bb W) (h : Below w.heap.size w W) => mixedP_any g fb br bs bt bb p pa pc W hF (hg.below h) hz (both_nd h0) (hp.below h) hpl hpo (fun s hs => (both_form h0 s hs).2) hcp)
 unfold CheckedRes at HC
 unfold NumRes
 generalize bothF g p = R at *
 clear hg hz hp hpo hcp hwc hr
 rw [Grd.agg_eq] at HC ⊢
 have hX := Box.new w 32 #[.slice g.ra g.rooms.length g.rc, .slice g.sa g.slots.length g.sc, .slice g.ta g.talks.length g.tc, .slice g.wa g.wishes.length g.wc, .slice g.ba g.bans.length g.bc]
 have hb0 : Below w.heap.size w (w.alloc (.cells #[.slice g.ra g.rooms.length g.rc, .slice g.sa g.slots.length g.sc, .slice g.ta g.talks.length g.tc, .slice g.wa g.wishes.length g.wc, .slice g.ba g.bans.length g.bc] 32)) := (Below.refl _ _).alloc (Nat.le_refl _) _
 go_enter Tryz.func24, Tryz.ntmps24
 go_upto_region 1 with (fail)
 generalize w.alloc (.cells #[.slice g.ra g.rooms.length g.rc, .slice g.sa g.slots.length g.sc, .slice g.ta g.talks.length g.tc, .slice g.wa g.wishes.length g.wc, .slice g.ba g.bans.length g.bc] 32) = w1 at *
 have hX_l := hX.lt; have hX_0 := hX.cell 0; have hX_1 := hX.cell 1; have hX_2 := hX.cell 2; have hX_3 := hX.cell 3; have hX_4 := hX.cell 4; simp at hX_0 hX_1 hX_2 hX_3 hX_4
 go_wp2_with fail
 clear hX_l hX_0 hX_1 hX_2 hX_3 hX_4
 refine (HC.out _ hb0).mono ?_
 rintro e w2 ⟨hb1, h⟩
 replace hb1 := below_next hb0 hb1
 clear HC hb0 hX
 rcases h with ⟨h0, rfl⟩ | ⟨rfl, fb, br, bs, bt, bb, rfl, hF, -⟩
 ·
  have hq : (R != 0) = true := by simpa using h0
  have H0 := Lib.hid h0
  clear h0
  go_wp2_with fail
  refine bodyPost_ret (v := .tuple #[.int .i64 0, .int .i64 R]) (by simp only [results, Tryz.results24]; go_simp) rfl ?_
  exact ⟨hb1, .inl ⟨H0.out, rfl⟩⟩
 ·
  go_wp2_with fail
  refine (HK.out trivial _ _ _ _ _ _ hF hb1).mono ?_
  rintro e w3 ⟨rfl, hb3⟩
  have hb4 := below_next hb1 hb3
  clear hF hb3
  go_wp2_with fail
  refine bodyPost_ret (v := .tuple #[.int .i64 ((mixN g p : Nat)), .int .i64 0]) (by simp only [results, Tryz.results24]; go_simp) rfl ?_
  exact ⟨hb4, rfl⟩
set_option maxRecDepth 100000 in
set_option maxHeartbeats 4000000 in
theorem costF_any (g : Grd) (p : List Ses) (pa : Option Addr) (pc : Nat) (w : World) (hg : GRd w g) (hz : GSm g) (hr : ∀ x ∈ g.rooms, RomOk x) (hp : PRg w pa p) (hpl : p.length ≤ 1000) (hpo : ∀ s ∈ p, SesOk s) (hpc : p.length ≤ pc) (hcp : ∀ s ∈ p, s.papers.length ≤ s.c1) (hwc : ∀ x ∈ g.wishes, x.papers.length ≤ x.c1) (hwl : g.wishes.length ≤ 50) :
  Calls Tryz.prog 26 #[g.agg, .slice pa p.length pc] w (NumRes g p (costZ (missL g p).length (mixN g p : Nat) (sortClh (clP g p)) (crowdL g p)) w) := by
 have HC := Lib.hid (fun W (h : Below w.heap.size w W) => checkedP_any g p pa pc W (hg.below h) hz (hp.below h) (by omega) hpo hpc)
 have HK := Lib.hid (fun (h0 : bothF g p = 0) fb br bs bt bb W (hF : FieldAt g fb br bs bt bb W) (h : Below w.heap.size w W) => costP_any g fb br bs bt bb p pa pc W hF (hg.below h) hz hr (hp.below h) hpl hpo hpc hcp hwc hwl h0)
 unfold CheckedRes at HC
 unfold NumRes
 generalize bothF g p = R at *
 clear hg hz hp hpo hcp hwc hr
 rw [Grd.agg_eq] at HC ⊢
 have hX := Box.new w 32 #[.slice g.ra g.rooms.length g.rc, .slice g.sa g.slots.length g.sc, .slice g.ta g.talks.length g.tc, .slice g.wa g.wishes.length g.wc, .slice g.ba g.bans.length g.bc]
 have hb0 : Below w.heap.size w (w.alloc (.cells #[.slice g.ra g.rooms.length g.rc, .slice g.sa g.slots.length g.sc, .slice g.ta g.talks.length g.tc, .slice g.wa g.wishes.length g.wc, .slice g.ba g.bans.length g.bc] 32)) := (Below.refl _ _).alloc (Nat.le_refl _) _
 go_enter Tryz.func26, Tryz.ntmps26
 go_upto_region 1 with (fail)
 generalize w.alloc (.cells #[.slice g.ra g.rooms.length g.rc, .slice g.sa g.slots.length g.sc, .slice g.ta g.talks.length g.tc, .slice g.wa g.wishes.length g.wc, .slice g.ba g.bans.length g.bc] 32) = w1 at *
 have hX_l := hX.lt; have hX_0 := hX.cell 0; have hX_1 := hX.cell 1; have hX_2 := hX.cell 2; have hX_3 := hX.cell 3; have hX_4 := hX.cell 4; simp at hX_0 hX_1 hX_2 hX_3 hX_4
 go_wp2_with fail
 clear hX_l hX_0 hX_1 hX_2 hX_3 hX_4
 refine (HC.out _ hb0).mono ?_
 rintro e w2 ⟨hb1, h⟩
 replace hb1 := below_next hb0 hb1
 clear HC hb0 hX
 rcases h with ⟨h0, rfl⟩ | ⟨rfl, fb, br, bs, bt, bb, rfl, hF, -⟩
 ·
  have hq : (R != 0) = true := by simpa using h0
  have H0 := Lib.hid h0
  clear h0
  go_wp2_with fail
  refine bodyPost_ret (v := .tuple #[.int .i64 0, .int .i64 R]) (by simp only [results, Tryz.results26]; go_simp) rfl ?_
  exact ⟨hb1, .inl ⟨H0.out, rfl⟩⟩
 ·
  go_wp2_with fail
  refine (HK.out trivial _ _ _ _ _ _ hF hb1).mono ?_
  rintro e w3 ⟨rfl, hb3⟩
  have hb4 := below_next hb1 hb3
  clear hF hb3
  go_wp2_with fail
  refine bodyPost_ret (v := .tuple #[.int .i64 (costZ (missL g p).length (mixN g p : Nat) (sortClh (clP g p)) (crowdL g p)), .int .i64 0]) (by simp only [results, Tryz.results26]; go_simp) rfl ?_
  exact ⟨hb4, rfl⟩
end Go.Proofs.YthnbcdgbpofnjaaGreatDoor
