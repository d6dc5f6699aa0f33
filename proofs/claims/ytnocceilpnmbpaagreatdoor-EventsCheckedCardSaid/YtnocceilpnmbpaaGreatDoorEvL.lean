/- Lists of events: Clone, Concat, ContainsFunc; the events that no other one follows, of program and reference. -/
import Derived.Test.YtnocceilpnmbpaaGreatDoorEvP
import Derived.Test.YtnocceilpnmbpaaGreatDoorStrs
import Derived.Test.YtnocceilpnmbpaaGreatDoorAppAll
import Derived.Lib.AppendZerosOnto
namespace Go.Proofs.YtnocceilpnmbpaaGreatDoor
open Go.RowKit
set_option linter.unusedVariables false
set_option linter.unusedSimpArgs false

theorem infoEv : (Tryz.prog.info? 53).map (fun i => (i.zero, i.size, i.bytes)) = some (some (.agg #[.string ⟨#[]⟩, .string ⟨#[]⟩, .int .i64 0, .slice none 0 0, .int .i64 0, .string ⟨#[]⟩, .string ⟨#[]⟩, .string ⟨#[]⟩, .string ⟨#[]⟩]), 9, 136) := by kernel_rfl
set_option maxRecDepth 100000 in
set_option maxHeartbeats 4000000 in
theorem indexEv_any (l : List Ev) (a : Option Addr) (cap g : Nat) (lb : Array Value) (c : Ev → Bool) (w : World) (eg : ∀ args w, (callFunc g args).run Tryz.prog w = .ok (.enter g args) w) (h : SA w a l) (hlen : l.length ≤ 1000000000) (hc : TestAt Ev.agg g lb c l w) :
  Calls Tryz.prog 70 #[.slice a l.length cap, .func (.func g) #[] lb] w (fun e w' => ∃ r : Int, e = .returned (.int .i64 r) ∧ decide (0 ≤ r) = l.any c ∧ Below w.heap.size w w' ∧ r = idxI c l) := by
 have HC := Lib.hid hc
 clear hc
 go_enter Tryz.func70, Tryz.ntmps70
 go_wp2_with fail
 go_loopg [8] l.length (fun gk i wr => ∃ k : Nat, i = .int .i64 k ∧ k ≤ l.length ∧ Hid (gk = l.length - k) ∧ Hid (∀ x ∈ l.take k, c x = false) ∧ Below w.heap.size w wr)
 case atStart => exact ⟨0, rfl, by omega, rfl, fun x hx => (by cases hx), Below.refl _ _⟩
 case round =>
  obtain ⟨k, rfl, hk, hgk, hf, hb⟩ := hrel
  by_cases hlt : k < l.length
  ·
   obtain ⟨b, off, ha, c0, c1, c2, c3, c4, c5, c6, c7, c8⟩ := (h.below hb).ev hlt
   have HCx := Lib.hid (HC.out l[k] (List.getElem_mem hlt) wr hb)
   have Hat := Lib.hid (any_at (c := c) hlt)
   have Htk := Lib.hid (List.take_succ_eq_append_getElem hlt)
   have Hix := Lib.hid (fun h => idxI_at (c := c) hlt h hf.out)
   have Ha := Lib.hid ha
   rw [ha]
   clear ha
   generalize l[k] = x at *
   obtain ⟨x1, x2, x3, x4, x5, x6, x7, x8, x9, xa, xc⟩ := x
   (try simp only at *)
   have hk1 : (0 : Int) ≤ (k : Int) := by omega
   have hk2 : (k : Int) < (l.length : Int) := by omega
   obtain ⟨cx, hcx⟩ : ∃ cx, c ⟨x1, x2, x3, x4, x5, x6, x7, x8, x9, xa, xc⟩ = cx := ⟨_, rfl⟩
   rw [hcx] at HCx Hat Hix
   have Hcx := Lib.hid hcx
   clear hcx
   go_wp2_with fail
   refine HCx.out.mono ?_
   rintro e w1 ⟨rfl, hb1⟩
   have hb1' := below_next hb hb1
   cases cx
   ·
    go_wp2_with fail
    rw [← Ha.out]
    go_roundg (l.length - (k + 1))
    case measure => have := hgk.out; omega
    case rel => exact ⟨k + 1, by go_num, by omega, rfl, by rw [Htk.out]; exact fun x hx => (List.mem_append.1 hx).elim (hf.out x) (fun h => by rw [List.mem_singleton.1 h]; exact Hcx.out), hb1'⟩
   ·
    have Hany := Lib.hid (Hat.out rfl)
    have Hr := Lib.hid (Hix.out rfl)
    go_wp2_with fail
    go_ret
    exact ⟨_, rfl, by rw [Hany.out]; exact decide_eq_true hk1, hb1', Hr.out.symm⟩
  ·
   obtain rfl : k = l.length := by omega
   have Hany := Lib.hid (any_none hf.out)
   have Hr := Lib.hid (idxI_none hf.out)
   go_wp2_with fail
   go_ret
   exact ⟨_, rfl, by rw [Hany.out]; rfl, hb, Hr.out.symm⟩
set_option maxHeartbeats 4000000 in
theorem findEv_any (l : List Ev) (a : Option Addr) (cap g : Nat) (lb : Array Value) (c : Ev → Bool) (w : World) (eg : ∀ args w, (callFunc g args).run Tryz.prog w = .ok (.enter g args) w) (h : SA w a l) (hlen : l.length ≤ 1000000000) (hc : TestAt Ev.agg g lb c l w) :
  Calls Tryz.prog 26 #[.slice a l.length cap, .func (.func g) #[] lb] w (Gives (.bool (l.any c)) w) := by
 have HI := Lib.hid (indexEv_any l a cap g lb c w eg h hlen hc)
 clear hc
 go_enter Tryz.func26, Tryz.ntmps26
 go_wp2_with fail
 refine HI.out.mono ?_
 rintro e w1 ⟨r, rfl, hr, hb, hri⟩
 clear hri
 go_wp2_with fail
 go_ret
 exact ⟨by rw [← hr] <;> rfl, hb⟩
def cloneEvRen : Go.Shelf.Ren := ⟨fun | 41 => 39 | n => n, fun | 22 => 26 | 23 => 53 | 4 => 4 | n => n, fun | n => n⟩
theorem cloneEvLays : Go.Proofs.SlLaysE0.n41 Tryz.prog cloneEvRen := {
 mixed := by kernel_rfl
 f41 := ⟨Tryz.f39.name, by decide, Tryz.func39.trans (congrArg some (by kernel_rfl))⟩
 t4 := Tryz.underlying4
 a4 := Tryz.isAgg4
 z4 := Tryz.sizeOf4
 v4 := Tryz.zeroValue4
 t22 := Tryz.underlying26
 a22 := Tryz.isAgg26
 z22 := Tryz.sizeOf26
 v22 := Tryz.zeroValue26 }
theorem cloneEvInfo : (Tryz.prog.info? 53).map (fun i => (i.zero, i.size, i.bytes)) = some (some (.agg #[.string ⟨#[]⟩, .string ⟨#[]⟩, .int .i64 0, .slice none 0 0, .int .i64 0, .string ⟨#[]⟩, .string ⟨#[]⟩, .string ⟨#[]⟩, .string ⟨#[]⟩]), 9, 136) := by kernel_rfl
theorem cloneEv_any (l : List Ev) (a : Option Addr) (cap : Nat) (w : World) (hs : SA w a l) (hf : a = none ∨ ∃ b off, a = some ⟨b, off, none⟩) (hl : l.length ≤ 1000000) :
  Calls Tryz.prog 39 #[.slice a l.length cap] w (GivesOwn 53 l w) := by
 have hlen : (l.flatMap Cel.cells).length = l.length * 9 := by
  clear hs hl
  induction l with
  | nil => rfl
  | cons y r ih => rw [List.flatMap_cons, List.length_append, ih, Cel.len, List.length_cons]; show 9 + _ = _; omega
 have hone : ∀ u ∈ l.flatMap Cel.cells, u.oneCell' = true := fun u hu => by
  obtain ⟨y, _, hy⟩ := List.mem_flatMap.1 hu
  exact Cel.one y u hy
 rcases hf with rfl | ⟨b, off, rfl⟩
 ·
  have hl0 : l = [] := by
   rcases hs with h | ⟨b, off, h, _⟩
   ·
    exact h
   ·
    cases h
  subst hl0
  refine (AnyE.slices_Clone_nil cloneEvLays 0 cap w).mono ?_
  rintro e w' ⟨rfl, rfl⟩
  exact ⟨_, rfl, Own.nil _ _ _, Below.refl _ _⟩
 ·
  obtain ⟨i0, hi, hz0, hz1, hz2⟩ := info_parts cloneEvInfo
  refine (AnyE.slices_Clone cloneEvLays i0 (.agg #[.string ⟨#[]⟩, .string ⟨#[]⟩, .int .i64 0, .slice none 0 0, .int .i64 0, .string ⟨#[]⟩, .string ⟨#[]⟩, .string ⟨#[]⟩, .string ⟨#[]⟩]) 9 136 hi hz0 hz1 hz2 rfl (by omega) (fun w => Tryz.sizeOf53 w) b off l.length cap (l.flatMap Cel.cells) w hlen (by unfold maxLen; omega) (by omega) ?_ hone).mono ?_
  ·
   intro j u hu
   have hj : j < l.length * 9 := by rw [← hlen]; exact (List.getElem?_eq_some_iff.1 hu).1
   rcases hs with rfl | ⟨b', off', he, h⟩
   ·
    simp at hj
   ·
    cases he
    have hi1 : j / 9 < l.length := by omega
    have h1 := h (j / 9) (j % 9) _ (List.getElem?_eq_getElem hi1) (by show _ < 9; omega)
    have h2 := flat_get l (j / 9) (j % 9) _ (List.getElem?_eq_getElem hi1) (by show _ < 9; omega)
    have e : j / 9 * 9 + j % 9 = j := by omega
    have e' : j / 9 * Cel.k Ev + j % 9 = j := e
    rw [e'] at h1 h2
    rw [h1, ← h2, hu]
  ·
   rintro e w' ⟨v', rfl, hown, _, hb⟩
   exact ⟨v', rfl, hown, hb⟩

/-- An event of the list follows the one with a sum. -/
def refd (l : List Ev) (s : ByteArray) : Bool := l.any (fun x => hasS x.after s)
/-- The sums of the events that no other one follows. -/
def headsTo (l : List Ev) (k : Nat) : List ByteArray := ((l.take k).filter (fun e => !refd l e.sum)).map (·.sum)
def headsL (l : List Ev) : List ByteArray := headsTo l l.length
theorem headsTo_yes {l : List Ev} {k : Nat} (hk : k < l.length) (h : refd l l[k].sum = false) : headsTo l (k + 1) = headsTo l k ++ [l[k].sum] := by
 unfold headsTo
 rw [List.take_succ_eq_append_getElem hk, List.filter_append, List.map_append]
 congr 1
 rw [List.filter_cons_of_pos (by rw [h]; rfl)]
 rfl
theorem headsTo_no {l : List Ev} {k : Nat} (hk : k < l.length) (h : refd l l[k].sum = true) : headsTo l (k + 1) = headsTo l k := by
 unfold headsTo
 rw [List.take_succ_eq_append_getElem hk, List.filter_append, List.map_append, List.filter_cons_of_neg (by rw [h]; simp)]
 simp
theorem headsTo_len (l : List Ev) (k : Nat) : (headsTo l k).length ≤ k := by
 unfold headsTo
 rw [List.length_map]
 exact Nat.le_trans (List.length_filter_le _ _) (by rw [List.length_take]; omega)
theorem headsL_mem {l : List Ev} {s : ByteArray} (h : s ∈ headsL l) : ∃ e ∈ l, e.sum = s := by
 unfold headsL headsTo at h
 rw [List.take_length] at h
 obtain ⟨e, he, hs⟩ := List.mem_map.1 h
 exact ⟨e, (List.mem_filter.1 he).1, hs⟩
/-- The sums that the first k events follow. -/
def folTo (l : List Ev) (k : Nat) : List ByteArray := (l.take k).flatMap (·.after)
theorem folTo_succ {l : List Ev} {k : Nat} (hk : k < l.length) : folTo l (k + 1) = folTo l k ++ l[k].after := by
 unfold folTo
 rw [List.take_succ_eq_append_getElem hk, List.flatMap_append]
 simp
theorem folTo_refd (l : List Ev) (s : ByteArray) : s ∈ folTo l l.length ↔ refd l s = true := by
 unfold folTo refd
 rw [List.take_length, List.mem_flatMap, List.any_eq_true]
 constructor
 ·
  rintro ⟨x, hx, hs⟩
  exact ⟨x, hx, by unfold hasS; rw [List.any_eq_true]; exact ⟨s, hs, by simp⟩⟩
 ·
  rintro ⟨x, hx, hs⟩
  unfold hasS at hs
  rw [List.any_eq_true] at hs
  obtain ⟨y, hy, e⟩ := hs
  obtain rfl := of_decide_eq_true e
  exact ⟨x, hx, hy⟩

set_option maxHeartbeats 1000000 in
theorem headsClo_any (x : Ev) (be : Nat) (s : ByteArray) (w : World) (hc : w.cell? ⟨be, 0, none⟩ = some (.string s)) (hx : ERd w x) (hl : x.after.length ≤ 1000000) :
  Calls Tryz.prog 68 (#[x.agg] ++ #[.pointer (some ⟨be, 0, none⟩)]) w (Gives (.bool (hasS x.after s)) w) := by
 obtain ⟨x1, x2, x3, x4, x5, x6, x7, x8, x9, xa, xc⟩ := x
 have hlt := cell_lt hc
 obtain ⟨hsa, -⟩ := hx
 simp only at hsa hl
 have HC := Lib.hid (fun W h => contains_any x4 xa xc s W h (by omega))
 have hb0 : Below w.heap.size w (w.alloc (.cells #[.string x1, .string x2, .int .i64 x3, .slice xa x4.length xc, .int .i64 x5, .string x6, .string x7, .string x8, .string x9] 53)) := (Below.refl _ _).alloc (Nat.le_refl _) _
 have hsa0 := hsa.below hb0
 have hc0 := cell_later hb0 hc
 unfold Ev.agg
 show Calls _ _ #[.agg #[.string x1, .string x2, .int .i64 x3, .slice xa x4.length xc, .int .i64 x5, .string x6, .string x7, .string x8, .string x9], .pointer (some ⟨be, 0, none⟩)] _ _
 unfold hasS
 go_enter Tryz.func68, Tryz.ntmps68
 go_wp2_with fail
 refine (HC.out _ hsa0).mono ?_
 rintro e w1 ⟨rfl, rfl⟩
 go_wp2_with fail
 go_ret
 exact ⟨rfl, hb0⟩
set_option maxRecDepth 100000 in
set_option maxHeartbeats 4000000 in
theorem headsOf_any (l : List Ev) (a : Option Addr) (cap : Nat) (w : World) (h : EvsAt w a l) (hl : l.length ≤ 1000000) (hsm : ∀ e ∈ l, e.after.length ≤ 1000000) :
  Calls Tryz.prog 24 #[.slice a l.length cap] w (GivesOwn 9 (headsL l) w) := by
 have HF : Hid (∀ (W : World) (be : Nat) (s : ByteArray), Below w.heap.size w W → W.cell? ⟨be, 0, none⟩ = some (.string s) → Calls Tryz.prog 26 #[.slice a l.length cap, .func (.func 68) #[] #[.pointer (some ⟨be, 0, none⟩)]] W (Gives (.bool (refd l s)) W)) := fun W be s hb hc =>
  findEv_any l a cap 68 #[.pointer (some ⟨be, 0, none⟩)] (fun x => hasS x.after s) W (enters_of Tryz.func68 (by kernel_rfl) rfl) (h.below hb).1 (by omega) (fun x hx W' hb' => headsClo_any x be s W' (cell_later hb' hc) ((h.2 x hx).below (below_next hb hb')) (hsm x hx))
 have HA := Lib.hid h
 clear h
 go_enter Tryz.func24, Tryz.ntmps24
 go_wp2_with fail
 go_loopg [3, 8] l.length (fun gk v i wr => ∃ k : Nat, i = .int .i64 k ∧ k ≤ l.length ∧ Hid (gk = l.length - k) ∧ Own w.heap.size 9 wr v (headsTo l k) ∧ Below w.heap.size w wr)
 case atStart => exact ⟨0, rfl, by omega, rfl, Own.nil _ _ _, Below.refl _ _⟩
 case round =>
  obtain ⟨k, rfl, hk, hgk, hown, hb⟩ := hrel
  by_cases hlt : k < l.length
  ·
   obtain ⟨b, off, ha, c0, c1, c2, c3, c4, c5, c6, c7, c8⟩ := (HA.out.below hb).1.ev hlt
   have HY := Lib.hid (headsTo_yes hlt)
   have HN := Lib.hid (headsTo_no hlt)
   have HL := Lib.hid (headsTo_len l k)
   have Ha := Lib.hid ha
   rw [ha] at HF ⊢
   clear ha
   generalize l[k] = x at *
   obtain ⟨x1, x2, x3, x4, x5, x6, x7, x8, x9, xa, xc⟩ := x
   simp only at c0 c1 c2 c3 c4 c5 c6 c7 c8 HY HN
   have hz := hb.size
   have hb1 : Below w.heap.size w (wr.alloc (.cells #[.string x1, .string x2, .int .i64 x3, .slice xa x4.length xc, .int .i64 x5, .string x6, .string x7, .string x8, .string x9] 53)) := hb.alloc (by omega) _
   have hE1 := Box.new wr 53 #[.string x1, .string x2, .int .i64 x3, .slice xa x4.length xc, .int .i64 x5, .string x6, .string x7, .string x8, .string x9]
   have hown1 := hown.alloc (.cells #[.string x1, .string x2, .int .i64 x3, .slice xa x4.length xc, .int .i64 x5, .string x6, .string x7, .string x8, .string x9] 53)
   have HFx := Lib.hid (HF.out (wr.alloc (.cells #[.string x1, .string x2, .int .i64 x3, .slice xa x4.length xc, .int .i64 x5, .string x6, .string x7, .string x8, .string x9] 53)) wr.heap.size x1 hb1 (by rw [hE1.cell]; rfl))
   clear hown hb
   go_wp2_with fail
   refine HFx.out.mono ?_
   rintro e w1 ⟨rfl, hbf⟩
   have hb2 := below_next hb1 hbf
   have hE2 := hE1.below hbf
   have hown2 := hown1.below hbf
   have hz2 := hb2.size
   clear hE1 hown1 hb1 hbf c0 c1 c2 c3 c4 c5 c6 c7 c8 HFx
   cases hr : refd l x1
   ·
    have Hacc := Lib.hid (HY.out hr)
    have hE2_l := hE2.lt; have hE2_0 := hE2.cell 0; simp at hE2_0
    go_upto_region 6 with (fail)
    generalize hacc : headsTo l k = acc at *
    clear hr hacc
    go_upto_region 7 with (at_builtin; refine wpList_append_one rfl _ _ 42 rfl w.heap.size 9 16 (.string ⟨#[]⟩) Tryz.underlying42 Tryz.infoString rfl _ acc rfl (hown2.alloc _) x1 _ rfl (Box.newAt _ _ _ _ ?c0) ?c1 ?c2 ?c3 ?_; rotate_left 4; intro v' w2 hown3 hg3)
    case c0 => rfl
    case c1 => have := HL.out; omega
    case c2 => have := HL.out; omega
    case c3 => simp; omega
    have hb3 : Below w.heap.size w w2 := Below.grown (hb2.alloc (by omega) _) hg3 (by simp; omega) (fun j hj => (hown2.lt j hj).1)
    go_wp2_with fail
    rw [← Ha.out]
    go_roundg (l.length - (k + 1))
    case measure => have := hgk.out; omega
    case rel => exact ⟨k + 1, by go_num, by omega, rfl, by rw [Hacc.out]; exact hown3, hb3⟩
   ·
    have Hacc := Lib.hid (HN.out hr)
    clear hr
    go_wp2_with fail
    rw [← Ha.out]
    go_roundg (l.length - (k + 1))
    case measure => have := hgk.out; omega
    case rel => exact ⟨k + 1, by go_num, by omega, rfl, by rw [Hacc.out]; exact hown2, hb2⟩
  ·
   obtain rfl : k = l.length := by omega
   go_wp2_with fail
   go_ret
   exact ⟨_, rfl, hown, hb⟩
end Go.Proofs.YtnocceilpnmbpaaGreatDoor
