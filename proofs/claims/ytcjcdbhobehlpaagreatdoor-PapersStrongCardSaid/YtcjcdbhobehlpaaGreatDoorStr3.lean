/- What contradicts an order: Against, OrderFault, AgainstOf. -/
import Derived.Test.YtcjcdbhobehlpaaGreatDoorStr1
import Derived.Test.YtcjcdbhobehlpaaGreatDoorList
namespace Go.Proofs.YtcjcdbhobehlpaaGreatDoor
open Go.RowKit
set_option linter.unusedVariables false
set_option linter.unusedSimpArgs false

/-- What is wrong with the i-th paper of an order. -/
def oAt (ks order : List ByteArray) (i : Nat) : Int := match order[i]? with | none => 0 | some p => if hasS ks p = false then 8 else if hasS (order.take i) p = true then 6 else 0
def orderF (ks order : List ByteArray) : Int := if firstErr (oAt ks order) order.length ≠ 0 then firstErr (oAt ks order) order.length else if order.length < ks.length then 3 else 0
theorem oAt_at (ks order : List ByteArray) {i : Nat} (h : i < order.length) : oAt ks order i = if hasS ks order[i] = false then 8 else if hasS (order.take i) order[i] = true then 6 else 0 := by
 unfold oAt
 rw [List.getElem?_eq_getElem h]
def agR (l : List Mark) (order : List ByteArray) (i : Nat) : Nat → Int
 | 0 => 0
 | k + 1 => agR l order i k + winsN l (order.getD (i + 1 + k) ⟨#[]⟩) (order.getD i ⟨#[]⟩)
def agO (l : List Mark) (order : List ByteArray) : Nat → Int
 | 0 => 0
 | i + 1 => agO l order i + agR l order i (order.length - (i + 1))
theorem agR_bd (l : List Mark) (order : List ByteArray) (i : Nat) : ∀ k : Nat, 0 ≤ agR l order i k ∧ agR l order i k ≤ l.length * (k : Int)
 | 0 => by unfold agR; simp
 | k + 1 => by
  have h := agR_bd l order i k
  have h2 := winsN_bd l (order.getD (i + 1 + k) ⟨#[]⟩) (order.getD i ⟨#[]⟩)
  show 0 ≤ agR l order i k + winsN l _ _ ∧ agR l order i k + winsN l _ _ ≤ _
  have e : ((l.length : Int)) * ((k + 1 : Nat) : Int) = l.length * (k : Int) + l.length := by rw [Int.natCast_add, Int.mul_add]; simp
  rw [e]
  omega
theorem agR_bd2 (l : List Mark) (hl : l.length ≤ 400) (order : List ByteArray) (i : Nat) {k : Nat} (hk : k ≤ 1000) : 0 ≤ agR l order i k ∧ agR l order i k ≤ 400000 := by
 have h := agR_bd l order i k
 have h2 : l.length * k ≤ 400 * 1000 := Nat.mul_le_mul hl hk
 have h3 : ((l.length * k : Nat) : Int) ≤ 400000 := by omega
 rw [Int.natCast_mul] at h3
 omega
theorem agO_bd (l : List Mark) (hl : l.length ≤ 400) (order : List ByteArray) (ho : order.length ≤ 1000) : ∀ i : Nat, 0 ≤ agO l order i ∧ agO l order i ≤ 400000 * (i : Int)
 | 0 => by unfold agO; simp
 | i + 1 => by
  have h := agO_bd l hl order ho i
  have h2 := agR_bd2 l hl order i (k := order.length - (i + 1)) (by omega)
  show 0 ≤ agO l order i + agR l order i (order.length - (i + 1)) ∧ agO l order i + agR l order i (order.length - (i + 1)) ≤ _
  omega
theorem dropS (a : Option Addr) (l : List ByteArray) (c k : Nat) (hk : k ≤ l.length) (hc : l.length ≤ c) : ∃ da dc, (∀ W, (Instr.sliceAt 29 (.slice a l.length c) (some (.int .i64 (k : Nat))) none none).run Tryz.prog W = .ok (.slice da (l.drop k).length dc) W) ∧ ∀ W, SA W a l → SA W da (l.drop k) := by
 refine ⟨if c = k then a else a.map (·.add (k * 1)), c - k, fun W => ?_, fun W h => ?_⟩
 ·
  rw [List.length_drop]
  simp [Instr.sliceAt, Instr.slice, Instr.sliceBounds, Instr.sliceBound, run_underlying Tryz.underlying29, asIntOf, go_sem, Tryz.sizeOf9, hk]
 ·
  by_cases hkl : k = l.length
  ·
   rw [hkl, List.drop_length]; exact .inl rfl
  ·
   rw [if_neg (by omega)]
   rcases h with h | ⟨b, off, rfl, h⟩
   ·
    subst h; simp at hk hkl; exact absurd hk hkl
   ·
    refine .inr ⟨b, off + k, by simp [Addr.add], fun i j x hx hj => ?_⟩
    rw [List.getElem?_drop] at hx
    have h1 := h (k + i) j x hx hj
    rw [show off + ((k + i) * Cel.k ByteArray + j) = off + k + (i * Cel.k ByteArray + j) from by show off + ((k + i) * 1 + j) = off + k + (i * 1 + j); omega] at h1
    exact h1
theorem SA.takeS {w : World} {a : Option Addr} {l : List ByteArray} (h : SA w a l) (n : Nat) : SA w a (l.take n) := by
 rcases h with h | ⟨b, off, e, h⟩
 ·
  rw [h]; exact .inl (List.take_nil)
 ·
  exact .inr ⟨b, off, e, h.take n⟩
set_option maxRecDepth 100000 in
set_option maxHeartbeats 4000000 in
theorem againstOf_any (l : List Mark) (a : Option Addr) (cap : Nat) (order : List ByteArray) (oa : Option Addr) (oc : Nat) (w2 : World) (hs : SA w2 a l) (hl : l.length ≤ 400) (hso : SA w2 oa order) (hol : order.length ≤ 1000) (hoc : order.length ≤ oc) :
  Calls Tryz.prog 15 #[.slice a l.length cap, .slice oa order.length oc] w2 (Gives (.int .i64 (agO l order order.length)) w2) := by
 have HWO := Lib.hid (fun x y W (h : Below w2.heap.size w2 W) => winsOf_any l a cap x y W (hs.below h) hl)
 clear hs
 go_enter Tryz.func15, Tryz.ntmps15
 go_wp2_with fail
 go_loopg [12, 5] order.length (fun gk iv nv wr => ∃ i : Nat, iv = .int .i64 i ∧ nv = .int .i64 (agO l order i) ∧ i ≤ order.length ∧ Hid (gk = order.length - i) ∧ Below w2.heap.size w2 wr)
 case atStart => exact ⟨0, rfl, rfl, by omega, rfl, Below.refl _ _⟩
 case round =>
  obtain ⟨i, rfl, rfl, hi, hgi, hb⟩ := hrel
  by_cases hil : i < order.length
  ·
   obtain ⟨pb, po, hpa, e0⟩ := (hso.below hb).str hil
   have Hpa := Lib.hid hpa
   have hgp : order.getD i ⟨#[]⟩ = order[i] := by rw [List.getD_eq_getElem?_getD, List.getElem?_eq_getElem hil]; rfl
   obtain ⟨da, dc, hdr, hds⟩ := dropS oa order oc (i + 1) (by omega) hoc
   rw [show ((i + 1 : Nat) : Int) = (i : Int) + 1 from rfl] at hdr
   have HDS := Lib.hid (fun W (h : Below w2.heap.size w2 W) => hds W (hso.below h))
   have Hdl : Hid ((order.drop (i + 1)).length = order.length - (i + 1)) := by show _ = _; rw [List.length_drop]
   have HNX : Hid (agO l order (i + 1) = agO l order i + agR l order i (order.length - (i + 1))) := rfl
   have hbo := agO_bd l hl order (by omega) i
   have Hg2 : Hid (∀ k (hk : k < (order.drop (i + 1)).length), order.getD (i + 1 + k) ⟨#[]⟩ = (order.drop (i + 1))[k]) := fun k hk => by
    rw [List.getElem_drop, List.getD_eq_getElem?_getD, List.getElem?_eq_getElem]
    rfl
   have HRN : Hid (∀ k, agR l order i (k + 1) = agR l order i k + winsN l (order.getD (i + 1 + k) ⟨#[]⟩) order[i]) := fun k => by rw [← hgp]; rfl
   obtain ⟨qn, hqn⟩ : ∃ qn, qn = agO l order (i + 1) := ⟨_, rfl⟩
   have Hqn := Lib.hid hqn
   rw [← hqn] at HNX
   rw [hpa] at hdr
   rw [hpa]
   clear hpa hds hgp hqn
   generalize order[i] = p at *
   generalize agO l order i = N at *
   have hi1 : IntKind.i64.wrap ((i : Int) + 1) = (i : Int) + 1 := IntWalk.i64_in _ (by omega)
   have hdl2 : (order.drop (i + 1)).length ≤ 1000 := by rw [List.length_drop]; omega
   have hR0 : N = N + agR l order i 0 := by show N = N + 0; omega
   have HR0 := Lib.hid hR0
   clear hR0
   have HBR := Lib.hid (fun k (hk : k ≤ 1000) => agR_bd2 l hl order i hk)
   generalize agR l order i = rr at *
   generalize hdd : order.drop (i + 1) = od at *
   clear hdd
   go_wp2_with fail
   clear hdr e0
   go_loopg [22, 5] od.length (fun gk kv nv wr => ∃ k : Nat, kv = .int .i64 k ∧ nv = .int .i64 (N + rr k) ∧ k ≤ od.length ∧ Hid (gk = od.length - k) ∧ Below w2.heap.size w2 wr)
   case atStart => exact ⟨0, rfl, by rw [← HR0.out], by omega, rfl, hb⟩
   case round =>
    clear hb
    obtain ⟨k, rfl, rfl, hk, hgk, hb⟩ := hrel
    by_cases hkl : k < od.length
    ·
     obtain ⟨qb, qo, hqa, f0⟩ := (HDS.out _ hb).str hkl
     have Hqa := Lib.hid hqa
     rw [hqa]
     clear hqa
     have hrn := HRN.out k
     rw [Hg2.out k hkl] at hrn
     have Hrn := Lib.hid hrn
     clear hrn
     have hb1 := HBR.out k (by omega)
     have hwb := winsN_bd l od[k] p
     have HWC := Lib.hid (fun W h => HWO.out od[k] p W h)
     obtain ⟨rn, hrnn⟩ : ∃ rn, rn = rr (k + 1) := ⟨_, rfl⟩
     have Hrnn := Lib.hid hrnn
     rw [← hrnn] at Hrn
     clear hrnn
     generalize od[k] = q at *
     generalize rr k = R at *
     generalize winsN l q p = v at *
     have hw1 : IntKind.i64.wrap (N + R + v) = N + (R + v) := by rw [IntWalk.i64_in _ (by omega)]; omega
     go_wp2_with fail
     refine (HWC.out _ hb).mono ?_
     rintro e w3 ⟨rfl, hb3⟩
     have hb4 := below_next hb hb3
     clear hb hb3 f0
     go_wp2_with fail
     rw [← Hqa.out]
     go_roundg (od.length - (k + 1))
     case measure => have := hgk.out; omega
     case rel => exact ⟨k + 1, by go_num, by rw [← Hrnn.out, Hrn.out], by omega, rfl, hb4⟩
    ·
     obtain rfl : k = od.length := by omega
     have HN2 : Hid (N + rr od.length = qn) := by show _ = _; rw [HNX.out, Hdl.out]
     generalize N + rr od.length = N2 at *
     go_wp2_with fail
     rw [← Hpa.out]
     go_roundg (order.length - (i + 1))
     case measure => have := hgi.out; omega
     case rel => exact ⟨i + 1, by go_num, by rw [← Hqn.out, ← HN2.out], by omega, rfl, hb⟩
  ·
   obtain rfl : i = order.length := by omega
   go_wp2_with fail
   go_ret
   exact ⟨rfl, hb⟩
theorem orderF_hit {ks order : List ByteArray} {i : Nat} {er : Int} (hi : i < order.length) (h : ∀ j, j < i → oAt ks order j = 0) (he : oAt ks order i = er) (h0 : er ≠ 0) : orderF ks order = er := by
 unfold orderF
 rw [firstErr_is hi h he h0, if_pos h0]
theorem orderF_end {ks order : List ByteArray} (h : ∀ j, j < order.length → oAt ks order j = 0) : orderF ks order = if order.length < ks.length then 3 else 0 := by
 unfold orderF
 rw [firstErr_zero h, if_neg (by decide)]
set_option maxRecDepth 100000 in
set_option maxHeartbeats 4000000 in
theorem orderFault_any (l : List Mark) (a : Option Addr) (cap : Nat) (order : List ByteArray) (oa : Option Addr) (oc : Nat) (w : World) (hs : SA w a l) (hl : l.length ≤ 400) (hso : SA w oa order) (hol : order.length ≤ 1000) (hoc : order.length ≤ oc) :
  Calls Tryz.prog 14 #[.slice a l.length cap, .slice oa order.length oc] w (Gives (.int .i64 (orderF (keysOf (fun x => x.1) l) order)) w) := by
 have HMP := Lib.hid (MarkedPapers_any l a cap w hs (by omega))
 have hkl := keysOf_length (fun x => x.1) l
 generalize keysOf (fun x => x.1) l = ks at *
 have HH : Hid (∀ i er, i < order.length → (∀ j, j < i → oAt ks order j = 0) → oAt ks order i = er → er ≠ 0 → orderF ks order = er) := fun i er h1 h2 h3 h4 => orderF_hit h1 h2 h3 h4
 have HE : Hid ((∀ j, j < order.length → oAt ks order j = 0) → orderF ks order = if order.length < ks.length then 3 else 0) := orderF_end
 have HA : Hid (∀ i (h : i < order.length), oAt ks order i = if hasS ks order[i] = false then 8 else if hasS (order.take i) order[i] = true then 6 else 0) := fun i h => oAt_at ks order h
 generalize orderF ks order = R at *
 clear hs
 go_enter Tryz.func14, Tryz.ntmps14
 go_wp2_with fail
 refine HMP.out.mono ?_
 rintro e w1 ⟨vk, rfl, hownk, hb1⟩
 obtain ⟨ka, kc, rfl, hsk, -, -⟩ := hownk.form
 have hso1 := hso.below hb1
 clear hownk HMP hso
 go_wp2_with fail
 go_loopg [12] order.length (fun gk iv wr => ∃ i : Nat, iv = .int .i64 i ∧ i ≤ order.length ∧ Hid (gk = order.length - i) ∧ Hid (∀ j, j < i → oAt ks order j = 0) ∧ wr = w1)
 case atStart => exact ⟨0, rfl, by omega, rfl, fun j hj => by omega, rfl⟩
 case round =>
  obtain ⟨i, rfl, hi, hgi, hz, rfl⟩ := hrel
  by_cases hil : i < order.length
  ·
   obtain ⟨pb, po, hpa, e0⟩ := hso1.str hil
   have HAi := Lib.hid (HA.out i hil)
   have HC1 := Lib.hid (contains_any ks ka kc order[i] wr hsk (by omega))
   have hc2 := contains_any (order.take i) oa oc order[i] wr (hso1.takeS i) (by rw [List.length_take]; omega)
   rw [List.length_take, Nat.min_eq_left hi] at hc2
   rw [hpa] at hc2
   have HC2 := Lib.hid hc2
   have Hpa := Lib.hid hpa
   rw [hpa]
   have h1e : Hid (ks.any (fun y => decide (y = order[i])) = hasS ks order[i]) := rfl
   have h2e : Hid ((order.take i).any (fun y => decide (y = order[i])) = hasS (order.take i) order[i]) := rfl
   rw [h1e.out] at HC1
   rw [h2e.out] at HC2
   clear hpa hc2 h1e h2e
   generalize hasS ks order[i] = c1 at *
   generalize hasS (order.take i) order[i] = c2 at *
   generalize order[i] = p at *
   have hio : i ≤ oc := by omega
   have hi0 : (0 : Int) ≤ (i : Int) := by omega
   cases c1
   ·
    have Hr := Lib.hid (HH.out i 8 hil hz.out (by rw [HAi.out, if_pos rfl]) (by decide))
    go_wp2_with fail
    refine HC1.out.mono ?_
    rintro e w3 ⟨rfl, rfl⟩
    go_wp2_with fail
    go_ret
    exact ⟨by rw [Hr.out] <;> rfl, hb1⟩
   ·
    cases c2
    ·
     have Hz2 : Hid (∀ j, j < i + 1 → oAt ks order j = 0) := zeros_succ hz.out (by rw [HAi.out, if_neg (by decide), if_neg (by decide)])
     go_wp2_with fail
     refine HC1.out.mono ?_
     rintro e w3 ⟨rfl, rfl⟩
     go_wp2_with fail
     refine HC2.out.mono ?_
     rintro e w3 ⟨rfl, rfl⟩
     go_wp2_with fail
     rw [← Hpa.out]
     go_roundg (order.length - (i + 1))
     case measure => have := hgi.out; omega
     case rel => exact ⟨i + 1, by go_num, by omega, rfl, Hz2.out, rfl⟩
    ·
     have Hr := Lib.hid (HH.out i 6 hil hz.out (by rw [HAi.out, if_neg (by decide), if_pos rfl]) (by decide))
     go_wp2_with fail
     refine HC1.out.mono ?_
     rintro e w3 ⟨rfl, rfl⟩
     go_wp2_with fail
     refine HC2.out.mono ?_
     rintro e w3 ⟨rfl, rfl⟩
     go_wp2_with fail
     go_ret
     exact ⟨by rw [Hr.out] <;> rfl, hb1⟩
  ·
   obtain rfl : i = order.length := by omega
   have hr := HE.out hz.out
   by_cases hlt : order.length < ks.length
   ·
    rw [if_pos hlt] at hr
    have Hr := Lib.hid hr
    have hd : decide ((order.length : Int) < (ks.length : Int)) = true := decide_eq_true (by omega)
    clear hr
    go_wp2_with fail
    go_ret
    exact ⟨by rw [Hr.out] <;> rfl, hb1⟩
   ·
    rw [if_neg hlt] at hr
    have Hr := Lib.hid hr
    have hd : decide ((order.length : Int) < (ks.length : Int)) = false := decide_eq_false (by omega)
    clear hr
    go_wp2_with fail
    go_ret
    exact ⟨by rw [Hr.out] <;> rfl, hb1⟩
/-- A map tells which strings were seen. -/
def SeenM (w : World) (b : Nat) (s : List ByteArray) : Prop := ∃ es, MBox w b es ∧ ∀ p, (mget es p).getD (.bool false) = .bool (hasS s p)
theorem SeenM.look {w : World} {b : Nat} {s : List ByteArray} (h : SeenM w b s) (p : ByteArray) : (Instr.lookup 71 (.map (some b)) (.string p) false).run Tryz.prog w = .ok (.bool (hasS s p)) w := by
 obtain ⟨es, h1, h2⟩ := h
 rw [MBox.look h1 Tryz.underlying71 Tryz.underlying9 (.bool false) Tryz.zeroValue4 p false]
 unfold looked
 simp only [Bool.false_eq_true, if_false, h2]
theorem SeenM.add {w : World} {b : Nat} {s : List ByteArray} {es : List (ByteArray × Value)} {p : ByteArray} (h : MBox w b (mput es p (.bool true))) (h2 : ∀ p, (mget es p).getD (.bool false) = .bool (hasS s p)) : SeenM w b (s ++ [p]) := by
 refine ⟨_, h, fun q => ?_⟩
 rw [mget_mput]
 unfold hasS at *
 rw [List.any_append]
 by_cases e : p = q
 ·
  rw [if_pos e]; simp [e]
 ·
  rw [if_neg e, h2]; simp [e]
/-- What Against gives: contradictions, error. -/
def agE (l : List Mark) (order : List ByteArray) : Int := if marksFault l ≠ 0 then marksFault l else orderF (keysOf (fun x => x.1) l) order
set_option maxRecDepth 100000 in
set_option maxHeartbeats 8000000 in
theorem against_any (l : List Mark) (a : Option Addr) (cap : Nat) (order : List ByteArray) (oa : Option Addr) (oc : Nat) (w : World) (hs : SA w a l) (hl : l.length ≤ 400) (hks : ∀ x ∈ l, x.1.size ≤ 1000 ∧ x.2.1.size ≤ 1000) (hso : SA w oa order) (hol : order.length ≤ 1000) (hoc : order.length ≤ oc) :
  Calls Tryz.prog 8 #[.slice a l.length cap, .slice oa order.length oc] w (Gives (.tuple #[.int .i64 (if agE l order = 0 then agO l order order.length else 0), .int .i64 (agE l order)]) w) := by
 have HE1 : Hid (marksFault l ≠ 0 → agE l order = marksFault l) := fun h => by unfold agE; rw [if_pos h]
 have HE2 : Hid (marksFault l = 0 → agE l order = orderF (keysOf (fun x => x.1) l) order) := fun h => by unfold agE; rw [if_neg (by simpa using h)]
 have HV : Hid (agE l order ≠ 0 → (if agE l order = 0 then agO l order order.length else 0) = 0) := fun h => by rw [if_neg h]
 have HV2 : Hid (agE l order = 0 → (if agE l order = 0 then agO l order order.length else 0) = agO l order order.length) := fun h => by rw [if_pos h]
 generalize (if agE l order = 0 then agO l order order.length else 0) = av at *
 generalize agE l order = ae at *
 obtain ⟨ks, hkk⟩ : ∃ ks, keysOf (fun x => x.1) l = ks := ⟨_, rfl⟩
 have HKK := Lib.hid hkk
 rw [hkk] at HE2
 have hkl := keysOf_length (fun x => x.1) l
 rw [hkk] at hkl
 clear hkk
 have hmm := @run_makeMap Tryz.prog
 go_enter Tryz.func8, Tryz.ntmps8
 go_wp2_with fail
 refine (checked_any l a cap _ hs (by omega) hks).mono ?_
 rintro e w1 ⟨hb1, h1⟩
 rcases h1 with ⟨h0, rfl⟩ | ⟨h0, sb, rfl, hsh, hsb⟩
 ·
  have h0' : (marksFault l != 0) = true := by simpa using h0
  have he := HE1.out h0
  have hv := HV.out (by rw [he]; exact h0)
  subst hv
  have HEE := Lib.hid he
  clear h0 he
  go_wp2_with fail
  go_ret2
  exact ⟨by rw [HEE.out] <;> rfl, hb1⟩
 ·
  obtain ⟨b1, b2, base, a', cap', es1, es2, hst, hsa'⟩ := hsh
  have hel := sheet_len hst
  rw [HKK.out] at hel
  have HEE := Lib.hid (HE2.out h0)
  have HST := Lib.hid (fun W (h : Below w1.heap.size w1 W) => hst.below h)
  have H0 := Lib.hid h0
  have hso1 := hso.below hb1
  have HH : Hid (∀ i er, i < order.length → (∀ j, j < i → oAt ks order j = 0) → oAt ks order i = er → er ≠ 0 → orderF ks order = er) := fun i er h1 h2 h3 h4 => orderF_hit h1 h2 h3 h4
  have HE : Hid ((∀ j, j < order.length → oAt ks order j = 0) → orderF ks order = if order.length < ks.length then 3 else 0) := orderF_end
  have HA : Hid (∀ i (h : i < order.length), oAt ks order i = if hasS ks order[i] = false then 8 else if hasS (order.take i) order[i] = true then 6 else 0) := fun i h => oAt_at ks order h
  have HSL : Hid (∀ p, (hasS ks p = false ↔ (sel (fun x => x.1) p l).length = 0)) := fun p => by
   rw [List.length_eq_zero_iff, ← HKK.out]
   unfold hasS
   rw [List.any_eq_false]
   constructor
   ·
    intro h
    refine sel_nil.2 (fun hx => ?_)
    have := h p ((keysOf_mem _ _ _).2 hx)
    exact this (decide_eq_true rfl)
   ·
    intro h q hq e
    have e2 : q = p := of_decide_eq_true e
    subst e2
    exact sel_nil.1 h ((keysOf_mem _ _ _).1 hq)
  generalize orderF ks order = R at *
  clear h0 hst hso
  go_upto_region 5 with (fail)
  clear hmm
  have hM0 : SeenM (w1.alloc (.map #[] 0)) w1.heap.size (order.take 0) := ⟨[], MBox.new w1, fun p => by rw [List.take_zero]; rfl⟩
  have hb3 : Below w1.heap.size w1 (w1.alloc (.map #[] 0)) := (Below.refl _ _).alloc (Nat.le_refl _) _
  generalize w1.alloc (.map #[] 0) = w3 at *
  obtain ⟨mb, hmb⟩ : ∃ mb, mb = w1.heap.size := ⟨_, rfl⟩
  have hmb1 : w1.heap.size ≤ mb := by omega
  rw [← hmb] at hM0
  rw [← hmb]
  clear hmb
  go_wp2_with fail
  go_loopg [27] order.length (fun gk iv wr => ∃ i : Nat, iv = .int .i64 i ∧ i ≤ order.length ∧ Hid (gk = order.length - i) ∧ Hid (∀ j, j < i → oAt ks order j = 0) ∧ SeenM wr mb (order.take i) ∧ Below w1.heap.size w1 wr)
  case atStart => exact ⟨0, rfl, by omega, rfl, fun j hj => by omega, hM0, hb3⟩
  case round =>
   clear hM0 hb3
   obtain ⟨i, rfl, hi, hgi, hz, hM, hb⟩ := hrel
   have hbw := below_next hb1 hb
   by_cases hil : i < order.length
   ·
    obtain ⟨pb, po, hpa, e0⟩ := (hso1.below hb).str hil
    have HAi := Lib.hid (HA.out i hil)
    have hst := HST.out _ hb
    have hS := hst.box
    have hvalA := hst.one.vals order[i]
    obtain ⟨av', capv, hv, -, -, -⟩ := hvalA.sa
    have hlkA := hst.one.look order[i]
    rw [hv] at hlkA
    have hsl := HSL.out order[i]
    have hlk2 := hM.look order[i]
    have Htk : Hid (order.take (i + 1) = order.take i ++ [order[i]]) := List.take_succ_eq_append_getElem hil
    have Hpa := Lib.hid hpa
    rw [hpa]
    clear hpa hst hvalA hv
    generalize (sel (fun x => x.1) order[i] l).length = ml at *
    generalize hasS ks order[i] = c1 at *
    generalize hasS (order.take i) order[i] = c2 at *
    obtain ⟨es, hE, hEv⟩ := hM
    have HADD := Lib.hid (fun W (h : MBox W mb (mput es order[i] (.bool true))) => SeenM.add h hEv)
    rw [← Htk.out] at HADD
    clear hEv Htk
    generalize order[i] = p at *
    have hS_l := hS.lt; have hS_0 := hS.cell 0; have hS_1 := hS.cell 1; have hS_2 := hS.cell 2; simp at hS_0 hS_1 hS_2
    cases c1
    ·
     have hm0 := hsl.1 rfl
     have hq : ((ml : Int) == 0) = true := by simp; omega
     have Hr := Lib.hid (HH.out i 8 hil hz.out (by rw [HAi.out, if_pos rfl]) (by decide))
     have hv := HV.out (by rw [HEE.out, Hr.out]; decide)
     subst hv
     clear hsl hm0
     go_wp2_with fail
     go_ret2
     exact ⟨by rw [HEE.out, Hr.out] <;> rfl, hbw⟩
    ·
     have hm0 : ¬ ml = 0 := fun h => by have := hsl.2 h; cases this
     have hq : ((ml : Int) == 0) = false := by simp; omega
     clear hsl hm0
     cases c2
     ·
      have Hz2 : Hid (∀ j, j < i + 1 → oAt ks order j = 0) := zeros_succ hz.out (by rw [HAi.out, if_neg (by decide), if_neg (by decide)])
      go_wp2_with (at_mapUpdate; refine wpList_mapUpdate_box rfl _ _ _ 71 rfl 9 4 Tryz.underlying71 Tryz.underlying9 mb es rfl hE p rfl (.bool true) rfl ?_; intro w5 hM5 hg5 hs5)
      have hb5 := hb.grown hg5 hb.size (fun j hj => by have := Option.some.inj hj; omega)
      have hM6 := HADD.out _ hM5
      clear hE hb hM5 hg5 hs5 hbw hS hlkA hlk2
      (try go_wp2_with fail)
      rw [← Hpa.out]
      go_roundg (order.length - (i + 1))
      case measure => have := hgi.out; omega
      case rel => exact ⟨i + 1, by go_num, by omega, rfl, Hz2.out, hM6, hb5⟩
     ·
      have Hr := Lib.hid (HH.out i 6 hil hz.out (by rw [HAi.out, if_neg (by decide), if_pos rfl]) (by decide))
      have hv := HV.out (by rw [HEE.out, Hr.out]; decide)
      subst hv
      go_wp2_with fail
      go_ret2
      exact ⟨by rw [HEE.out, Hr.out] <;> rfl, hbw⟩
   ·
    obtain rfl : i = order.length := by omega
    have hr := HE.out hz.out
    have hst := HST.out _ hb
    have hS := hst.box
    have hlr := len_sheet hst.one.box
    rw [hel] at hlr
    have hS_l := hS.lt; have hS_0 := hS.cell 0; have hS_1 := hS.cell 1; have hS_2 := hS.cell 2; simp at hS_0 hS_1 hS_2
    by_cases hlt : order.length < ks.length
    ·
     rw [if_pos hlt] at hr
     have Hr := Lib.hid hr
     have hd : decide ((order.length : Int) < (ks.length : Int)) = true := decide_eq_true (by omega)
     have hv := HV.out (by rw [HEE.out, Hr.out]; decide)
     subst hv
     clear hr hst
     go_wp2_with fail
     go_ret2
     exact ⟨by rw [HEE.out, Hr.out] <;> rfl, hbw⟩
    ·
     rw [if_neg hlt] at hr
     have Hr := Lib.hid hr
     have hd : decide ((order.length : Int) < (ks.length : Int)) = false := decide_eq_false (by omega)
     have hv := HV2.out (by rw [HEE.out, Hr.out])
     have Hav := Lib.hid hv
     obtain ⟨w2, hw2⟩ : ∃ w2, w2 = wr := ⟨_, rfl⟩
     have HWO := Lib.hid (fun x y W (h : Below wr.heap.size wr W) => wins_any sb b1 b2 base a' cap' l es1 es2 W (hst.below h) H0.out hl x y)
     have hso := hso1.below hb
     rw [← hw2] at HWO hso hbw
     clear hr hst hv hM hz hb hgi
     go_wp2_with fail
     rw [← hw2]
     clear hw2 hS hS_l hS_0 hS_1 hS_2 hlr
     go_loopg [55, 11] order.length (fun gk iv nv wr => ∃ i : Nat, iv = .int .i64 i ∧ nv = .int .i64 (agO l order i) ∧ i ≤ order.length ∧ Hid (gk = order.length - i) ∧ Below w2.heap.size w2 wr)
     case atStart => exact ⟨0, rfl, rfl, by omega, rfl, Below.refl _ _⟩
     case round =>
      obtain ⟨i, rfl, rfl, hi, hgi, hb⟩ := hrel
      by_cases hil : i < order.length
      ·
       obtain ⟨pb, po, hpa, e0⟩ := (hso.below hb).str hil
       have Hpa := Lib.hid hpa
       have hgp : order.getD i ⟨#[]⟩ = order[i] := by rw [List.getD_eq_getElem?_getD, List.getElem?_eq_getElem hil]; rfl
       obtain ⟨da, dc, hdr, hds⟩ := dropS oa order oc (i + 1) (by omega) hoc
       rw [show ((i + 1 : Nat) : Int) = (i : Int) + 1 from rfl] at hdr
       have HDS := Lib.hid (fun W (h : Below w2.heap.size w2 W) => hds W (hso.below h))
       have Hdl : Hid ((order.drop (i + 1)).length = order.length - (i + 1)) := by show _ = _; rw [List.length_drop]
       have HNX : Hid (agO l order (i + 1) = agO l order i + agR l order i (order.length - (i + 1))) := rfl
       have hbo := agO_bd l hl order (by omega) i
       have Hg2 : Hid (∀ k (hk : k < (order.drop (i + 1)).length), order.getD (i + 1 + k) ⟨#[]⟩ = (order.drop (i + 1))[k]) := fun k hk => by
        rw [List.getElem_drop, List.getD_eq_getElem?_getD, List.getElem?_eq_getElem]
        rfl
       have HRN : Hid (∀ k, agR l order i (k + 1) = agR l order i k + winsN l (order.getD (i + 1 + k) ⟨#[]⟩) order[i]) := fun k => by rw [← hgp]; rfl
       obtain ⟨qn, hqn⟩ : ∃ qn, qn = agO l order (i + 1) := ⟨_, rfl⟩
       have Hqn := Lib.hid hqn
       rw [← hqn] at HNX
       rw [hpa] at hdr
       rw [hpa]
       clear hpa hds hgp hqn
       generalize order[i] = p at *
       generalize agO l order i = N at *
       have hi1 : IntKind.i64.wrap ((i : Int) + 1) = (i : Int) + 1 := IntWalk.i64_in _ (by omega)
       have hdl2 : (order.drop (i + 1)).length ≤ 1000 := by rw [List.length_drop]; omega
       have hR0 : N = N + agR l order i 0 := by show N = N + 0; omega
       have HR0 := Lib.hid hR0
       clear hR0
       have HBR := Lib.hid (fun k (hk : k ≤ 1000) => agR_bd2 l hl order i hk)
       generalize agR l order i = rr at *
       generalize hdd : order.drop (i + 1) = od at *
       clear hdd
       go_wp2_with fail
       clear hdr e0
       go_loopg [65, 11] od.length (fun gk kv nv wr => ∃ k : Nat, kv = .int .i64 k ∧ nv = .int .i64 (N + rr k) ∧ k ≤ od.length ∧ Hid (gk = od.length - k) ∧ Below w2.heap.size w2 wr)
       case atStart => exact ⟨0, rfl, by rw [← HR0.out], by omega, rfl, hb⟩
       case round =>
        clear hb
        obtain ⟨k, rfl, rfl, hk, hgk, hb⟩ := hrel
        by_cases hkl : k < od.length
        ·
         obtain ⟨qb, qo, hqa, f0⟩ := (HDS.out _ hb).str hkl
         have Hqa := Lib.hid hqa
         rw [hqa]
         clear hqa
         have hrn := HRN.out k
         rw [Hg2.out k hkl] at hrn
         have Hrn := Lib.hid hrn
         clear hrn
         have hb1 := HBR.out k (by omega)
         have hwb := winsN_bd l od[k] p
         have HWC := Lib.hid (fun W h => HWO.out od[k] p W h)
         obtain ⟨rn, hrnn⟩ : ∃ rn, rn = rr (k + 1) := ⟨_, rfl⟩
         have Hrnn := Lib.hid hrnn
         rw [← hrnn] at Hrn
         clear hrnn
         generalize od[k] = q at *
         generalize rr k = R at *
         generalize winsN l q p = v at *
         have hw1 : IntKind.i64.wrap (N + R + v) = N + (R + v) := by rw [IntWalk.i64_in _ (by omega)]; omega
         go_wp2_with fail
         refine (HWC.out _ hb).mono ?_
         rintro e w3 ⟨rfl, hb3⟩
         have hb4 := below_next hb hb3
         clear hb hb3 f0
         go_wp2_with fail
         rw [← Hqa.out]
         go_roundg (od.length - (k + 1))
         case measure => have := hgk.out; omega
         case rel => exact ⟨k + 1, by go_num, by rw [← Hrnn.out, Hrn.out], by omega, rfl, hb4⟩
        ·
         obtain rfl : k = od.length := by omega
         have HN2 : Hid (N + rr od.length = qn) := by show _ = _; rw [HNX.out, Hdl.out]
         generalize N + rr od.length = N2 at *
         go_wp2_with fail
         rw [← Hpa.out]
         go_roundg (order.length - (i + 1))
         case measure => have := hgi.out; omega
         case rel => exact ⟨i + 1, by go_num, by rw [← Hqn.out, ← HN2.out], by omega, rfl, hb⟩
      ·
       obtain rfl : i = order.length := by omega
       have hbz := below_next hbw hb
       rw [← Hav.out]
       go_wp2_with fail
       go_ret2
       exact ⟨by rw [HEE.out, Hr.out] <;> rfl, hbz⟩
end Go.Proofs.YtcjcdbhobehlpaaGreatDoor
