/- An event added to a list: AddedOf of the reference. -/
import Derived.Test.YtnocceilpnmbpaaGreatDoorEv9
namespace Go.Proofs.YtnocceilpnmbpaaGreatDoor
open Go.RowKit
set_option linter.unusedVariables false
set_option linter.unusedSimpArgs false

section
variable {P : Program} {ops : Array Oper} {Q : Exit → Act → World → Prop} {md : Region.Mode} {S : World → Prop}
/-- Two operations may come up, one of them a call. -/
theorem rcall2 {i j : Nat} {oi oj : Oper} {di dj : Option Tmp} {fuel : Nat} {listed : Array Bool} {a : Act} {w : World} (hr : Region.ready md ops listed = [i, j]) (hi : ops[i]? = some oi) (hdi : oi.dst = di) (hj : ops[j]? = some oj) (hdj : oj.dst = dj)
  (h1 : ∀ K' : Act → World → Prop, Shut (∀ v w, S w → (S w → wpAnyH P md ops Q S fuel (listed.setIfInBounds i true) (a.put di v) w) → K' (a.put di v) w) → if Region.wanted oi (yielded ops a.tmps) = true then Oper.wp P oi a w K' Q else K' (a.put di undef) w)
  (h2 : ∀ K' : Act → World → Prop, Shut (∀ v w, S w → (S w → wpAnyH P md ops Q S fuel (listed.setIfInBounds j true) (a.put dj v) w) → K' (a.put dj v) w) → if Region.wanted oj (yielded ops a.tmps) = true then Oper.wp P oj a w K' Q else K' (a.put dj undef) w) :
  wpAnyH P md ops Q S (fuel + 1) listed a w := by
 subst hdi hdj
 exact wpAnyH_ready hr (by simp) (AllReadyH.cons hi (fun K' hK => h1 K' (fun v w hS hh => hK.out _ _ hS hh)) (AllReadyH.cons hj (fun K' hK => h2 K' (fun v w hS hh => hK.out _ _ hS hh)) AllReadyH.nil))
end
/-- The event that is to be added, but for its sum and where its list lies. -/
def ev0 (l : List Ev) (desk : ByteArray) (at_ kind : Int) (who paper wth txt : ByteArray) : Ev := ⟨⟨#[]⟩, desk, at_, headsL l, kind, who, paper, wth, txt, none, 0⟩
/-- A head happened later. -/
def lateE (l : List Ev) (at_ : Int) (hs : List ByteArray) (j : Nat) : Int := match hs[j]? with | none => 0 | some s => if at_ < ((findE l s).getD default).at_ then 1 else 0
theorem lateE_is {l : List Ev} {at_ : Int} {hs : List ByteArray} {j : Nat} (hj : j < hs.length) : lateE l at_ hs j = if at_ < ((findE l hs[j]).getD default).at_ then 1 else 0 := by
 unfold lateE; rw [List.getElem?_eq_getElem hj]
/-- The error of AddedOf. -/
def addErr (l : List Ev) (e : Ev) : Int :=
 if keyB e.desk = false then 5
 else if l.length = 1500 ∨ 20 < e.after.length then 12
 else if headF e ≠ 0 then headF e
 else firstErr (lateE l e.at_ e.after) e.after.length
/-- The event, with its sum. -/
def summed (e : Ev) (a : Option Addr) (c : Nat) : Ev := { e with sum := evSum e, a := a, c := c }
def AddRes (base : Nat) (l : List Ev) (e0 : Ev) (w : World) (e : Ending) (w' : World) : Prop :=
 ∃ v m, e = .returned (.tuple #[v, .int .i64 (addErr l e0)]) ∧ NL base 53 w' v m ∧ Below w.heap.size w w' ∧ (addErr l e0 ≠ 0 → m = []) ∧ (addErr l e0 = 0 → ∃ a c, m = sortE (l ++ [summed e0 a c]))
theorem AddRes.bad {base : Nat} {l : List Ev} {e0 : Ev} {w w' : World} {er : Int} (h : addErr l e0 = er) (h0 : er ≠ 0) (hb : Below w.heap.size w w') : AddRes base l e0 w (.returned (.tuple #[.slice none 0 0, .int .i64 er])) w' := by
 subst h
 exact ⟨_, [], rfl, NL.nil _ _ _, hb, fun _ => rfl, fun h => absurd h h0⟩
theorem headsL_len (l : List Ev) : (headsL l).length ≤ l.length := headsTo_len l l.length
theorem ev0_ok {l : List Ev} {desk : ByteArray} {at_ kind : Int} {who paper wth txt : ByteArray} (hl : l.length ≤ 2000) (hok : ∀ e ∈ l, EvOk e) (h1 : desk.size ≤ 1000) (h2 : -1000000000 ≤ at_) (h3 : at_ ≤ 1000000000) (h4 : -1000 ≤ kind) (h5 : kind ≤ 1000) (h6 : who.size ≤ 1000) (h7 : paper.size ≤ 1000) (h8 : wth.size ≤ 1000) (h9 : txt.size ≤ 1000) : EvOk (ev0 l desk at_ kind who paper wth txt) :=
 ⟨by show (⟨#[]⟩ : ByteArray).size ≤ _; decide, h1, h2, h3, Nat.le_trans (headsL_len l) hl, fun x hx => by
  obtain ⟨e, he, rfl⟩ := headsL_mem hx
  exact (hok e he).sum, h4, h5, h6, h7, h8, h9⟩
set_option maxRecDepth 100000 in
set_option maxHeartbeats 8000000 in
theorem addedOf_any (base : Nat) (l : List Ev) (a : Option Addr) (cap : Nat) (desk : ByteArray) (at_ kind : Int) (who paper wth txt : ByteArray) (w : World) (hE : EnvE w) (hbase : base ≤ w.heap.size) (hs : EvsAt w a l) (haf : a = none ∨ ∃ b off, a = some ⟨b, off, none⟩) (hl : l.length ≤ 2000)
  (hok : ∀ e ∈ l, EvOk e) (had : AdsIn base w.heap.size l) (hok0 : EvOk (ev0 l desk at_ kind who paper wth txt)) :
  Calls Tryz.prog 21 #[.slice a l.length cap, .string desk, .int .i64 at_, .int .i64 kind, .string who, .string paper, .string wth, .string txt] w (AddRes base l (ev0 l desk at_ kind who paper wth txt) w) := by
 have HHd := Lib.hid (headsOf_any l a cap w hs (by omega) (fun e he => by have := (hok e he).len; omega))
 have HS := Lib.hid (fun W (h : Below w.heap.size w W) => hs.below h)
 have HE := Lib.hid (fun W (h : Below w.heap.size w W) => hE.below h)
 have hhl := headsL_len l
 have HOK := Lib.hid hok
 have HAD := Lib.hid had
 have hdz := hok0.desk
 simp only [ev0] at hdz
 have HBad : Hid (∀ er, addErr l (ev0 l desk at_ kind who paper wth txt) = er → er ≠ 0 → ∀ w', Below w.heap.size w w' → AddRes base l (ev0 l desk at_ kind who paper wth txt) w (.returned (.tuple #[.slice none 0 0, .int .i64 er])) w') := fun er h h0 w' hb => AddRes.bad h h0 hb
 have HV : Hid (addErr l (ev0 l desk at_ kind who paper wth txt) = if keyB desk = false then 5 else if l.length = 1500 ∨ 20 < (headsL l).length then 12 else if headF (ev0 l desk at_ kind who paper wth txt) ≠ 0 then headF (ev0 l desk at_ kind who paper wth txt) else firstErr (lateE l at_ (headsL l)) (headsL l).length) := rfl
 have HF0 : Hid (∀ W, Below w.heap.size w W → ∀ ah ch, Calls Tryz.prog 53 #[.agg #[.string ⟨#[]⟩, .string desk, .int .i64 at_, .slice ah (headsL l).length ch, .int .i64 kind, .string who, .string paper, .string wth, .string txt]] W (Gives (.int .i64 (headF (ev0 l desk at_ kind who paper wth txt))) W)) := fun W h ah ch =>
  eventFault_any ⟨⟨#[]⟩, desk, at_, headsL l, kind, who, paper, wth, txt, ah, ch⟩ W (HE.out W h).1 ⟨hok0.sum, hok0.desk, hok0.at1, hok0.at2, hok0.len, hok0.after, hok0.kind1, hok0.kind2, hok0.who, hok0.paper, hok0.wth, hok0.txt⟩
 have HS0 : Hid (∀ W, Below w.heap.size w W → ∀ ah ch, SA W ah (headsL l) → (headsL l).length ≤ ch → Calls Tryz.prog 44 #[.agg #[.string ⟨#[]⟩, .string desk, .int .i64 at_, .slice ah (headsL l).length ch, .int .i64 kind, .string who, .string paper, .string wth, .string txt]] W (Gives (.string (evSum (ev0 l desk at_ kind who paper wth txt))) W)) := fun W h ah ch h1 h2 =>
  eventSum_any ⟨⟨#[]⟩, desk, at_, headsL l, kind, who, paper, wth, txt, ah, ch⟩ W (HE.out W h) ⟨hok0.sum, hok0.desk, hok0.at1, hok0.at2, hok0.len, hok0.after, hok0.kind1, hok0.kind2, hok0.who, hok0.paper, hok0.wth, hok0.txt⟩ ⟨h1, h2⟩
 have HLt := Lib.hid (fun j hj => lateE_is (l := l) (at_ := at_) (hs := headsL l) (j := j) hj)
 have HSm : Hid (∀ a c, summed (ev0 l desk at_ kind who paper wth txt) a c = ⟨evSum (ev0 l desk at_ kind who paper wth txt), desk, at_, headsL l, kind, who, paper, wth, txt, a, c⟩) := fun a c => rfl
 clear hs hE hok had hok0
 generalize ev0 l desk at_ kind who paper wth txt = e0 at *
 generalize headsL l = hds at *
 generalize evSum e0 = sm at *
 generalize headF e0 = hf at *
 go_enter Tryz.func21, Tryz.ntmps21
 go_wp2_with fail
 refine HHd.out.mono ?_
 rintro e w1 ⟨v1, rfl, hown1, hb01⟩
 obtain ⟨ah, ch, rfl, hsah, hfh, hch⟩ := hown1.form
 have hz01 := hb01.size
 have HSH := Lib.hid (fun W (h : Below w1.heap.size w1 W) => hsah.below h)
 have Hfh := Lib.hid hfh
 clear HHd hown1 hsah hfh
 have hbx := Box.new w1 53 #[.string ⟨#[]⟩, .string desk, .int .i64 at_, .slice ah hds.length ch, .int .i64 kind, .string who, .string paper, .string wth, .string txt]
 have Hb : Hid (Below w1.heap.size w1 (w1.alloc (.cells #[.string ⟨#[]⟩, .string desk, .int .i64 at_, .slice ah hds.length ch, .int .i64 kind, .string who, .string paper, .string wth, .string txt] 53))) := (Below.refl _ _).alloc (Nat.le_refl _) _
 have Hbx := Lib.hid hbx
 go_upto_region 3 with (fail)
 generalize w1.alloc (.cells #[.string ⟨#[]⟩, .string desk, .int .i64 at_, .slice ah hds.length ch, .int .i64 kind, .string who, .string paper, .string wth, .string txt] 53) = W at *
 obtain ⟨q, hq⟩ : ∃ q, w1.heap.size = q := ⟨_, rfl⟩
 have Hq := Lib.hid hq
 rw [hq] at hbx
 replace Hbx : Hid (Box W q 53 #[.string ⟨#[]⟩, .string desk, .int .i64 at_, .slice ah hds.length ch, .int .i64 kind, .string who, .string paper, .string wth, .string txt]) := hbx
 rw [hq]
 clear hq
 have hbx_l := hbx.lt; have hbx_0 := hbx.cell 0; have hbx_1 := hbx.cell 1; have hbx_2 := hbx.cell 2; have hbx_3 := hbx.cell 3; have hbx_4 := hbx.cell 4; have hbx_5 := hbx.cell 5; have hbx_6 := hbx.cell 6; have hbx_7 := hbx.cell 7; have hbx_8 := hbx.cell 8; simp at hbx_0 hbx_1 hbx_2 hbx_3 hbx_4 hbx_5 hbx_6 hbx_7 hbx_8
 go_wp2_with fail
 refine (keyOf_any desk _ (by omega)).mono ?_
 rintro e w2 ⟨rfl, hb2⟩
 have HbN : Hid (Below w1.heap.size w1 w2) := below_next Hb.out hb2
 have HbxN := Lib.hid (Hbx.out.below hb2)
 clear hbx_l hbx_0 hbx_1 hbx_2 hbx_3 hbx_4 hbx_5 hbx_6 hbx_7 hbx_8
 clear hbx Hb Hbx
 have Hb := HbN
 have Hbx := HbxN
 have hbx := Hbx.out
 clear HbN HbxN
 have hbx_l := hbx.lt; have hbx_0 := hbx.cell 0; have hbx_1 := hbx.cell 1; have hbx_2 := hbx.cell 2; have hbx_3 := hbx.cell 3; have hbx_4 := hbx.cell 4; have hbx_5 := hbx.cell 5; have hbx_6 := hbx.cell 6; have hbx_7 := hbx.cell 7; have hbx_8 := hbx.cell 8; simp at hbx_0 hbx_1 hbx_2 hbx_3 hbx_4 hbx_5 hbx_6 hbx_7 hbx_8
 clear hb2
 cases h1 : keyB desk
 ·
  have Hv := Lib.hid (HBad.out 5 (by rw [HV.out, h1]; rfl) (by decide) _ (below_next hb01 Hb.out))
  go_wp2_with fail
  go_ret2
  exact Hv.out
 rw [h1, if_neg (by decide)] at HV
 by_cases h5 : l.length = 1500
 ·
  have h5a : ((l.length : Int) == 1500) = true := by simp [h5]
  have Hv := Lib.hid (HBad.out 12 (by rw [HV.out, if_pos (.inl h5)]) (by decide) _ (below_next hb01 Hb.out))
  clear h5
  go_wp2_with fail
  go_ret2
  exact Hv.out
 have h5a : ((l.length : Int) == 1500) = false := beq_eq_false_iff_ne.2 (by omega)
 by_cases h6 : 20 < hds.length
 ·
  have h6a : (20 : Int) < (hds.length : Int) := by omega
  have Hv := Lib.hid (HBad.out 12 (by rw [HV.out, if_pos (.inr h6)]) (by decide) _ (below_next hb01 Hb.out))
  clear h5
  go_wp2_with fail
  go_ret2
  exact Hv.out
 have h6a : ¬ (20 : Int) < (hds.length : Int) := by omega
 rw [if_neg (fun h => h.elim h5 h6)] at HV
 clear h5
 go_wp2_with fail
 refine (HF0.out _ (below_next hb01 Hb.out) ah ch).mono ?_
 rintro e w3 ⟨rfl, hb3⟩
 have HbN : Hid (Below w1.heap.size w1 w3) := below_next Hb.out hb3
 have HbxN := Lib.hid (Hbx.out.below hb3)
 clear hbx_l hbx_0 hbx_1 hbx_2 hbx_3 hbx_4 hbx_5 hbx_6 hbx_7 hbx_8
 clear hbx Hb Hbx
 have Hb := HbN
 have Hbx := HbxN
 have hbx := Hbx.out
 clear HbN HbxN
 have hbx_l := hbx.lt; have hbx_0 := hbx.cell 0; have hbx_1 := hbx.cell 1; have hbx_2 := hbx.cell 2; have hbx_3 := hbx.cell 3; have hbx_4 := hbx.cell 4; have hbx_5 := hbx.cell 5; have hbx_6 := hbx.cell 6; have hbx_7 := hbx.cell 7; have hbx_8 := hbx.cell 8; simp at hbx_0 hbx_1 hbx_2 hbx_3 hbx_4 hbx_5 hbx_6 hbx_7 hbx_8
 clear hb3 HF0
 by_cases h7 : hf = 0
 rotate_left 1
 ·
  have h7a : (hf != 0) = true := by simpa using h7
  have Hv := Lib.hid (HBad.out hf (by rw [HV.out, if_pos h7]) h7 _ (below_next hb01 Hb.out))
  clear h7
  go_wp2_with fail
  go_ret2
  exact Hv.out
 have h7a : (hf != 0) = false := by simpa using h7
 rw [if_neg (fun h => h h7)] at HV
 clear h7
 have hbxC := Hbx.out
 have hbC := Hb.out
 go_wp2_with fail
 clear hbx_l hbx_0 hbx_1 hbx_2 hbx_3 hbx_4 hbx_5 hbx_6 hbx_7 hbx_8
 clear hbx Hbx Hb
 go_loopg [57] hds.length (fun gk i wr => ∃ k : Nat, i = .int .i64 k ∧ k ≤ hds.length ∧ Hid (gk = hds.length - k) ∧ Hid (∀ j, j < k → lateE l at_ hds j = 0) ∧ Box wr q 53 #[.string ⟨#[]⟩, .string desk, .int .i64 at_, .slice ah hds.length ch, .int .i64 kind, .string who, .string paper, .string wth, .string txt] ∧ Below w1.heap.size w1 wr)
 case atStart => exact ⟨0, rfl, by omega, rfl, fun j hj => by omega, hbxC, hbC⟩
 case round =>
  clear hbxC hbC
  obtain ⟨k, rfl, hk, hgk, hz0, hbx, hbr⟩ := hrel
  by_cases hlt : k < hds.length
  ·
   obtain ⟨b2, off2, ha2, d0⟩ := (HSH.out _ hbr).str hlt
   have HLk := Lib.hid (HLt.out k hlt)
   have Hfe := Lib.hid (fun (er : Int) (he : lateE l at_ hds k = er) (h0 : er ≠ 0) => HBad.out er (by rw [HV.out]; exact firstErr_is hlt hz0.out he h0) h0)
   have Ha2 := Lib.hid ha2
   rw [ha2]
   clear ha2
   generalize hds[k] = y at *
   have HFy := Lib.hid (eventOf_any l a cap y wr (HS.out _ (below_next hb01 hbr)).1 (by omega))
   generalize (findE l y).isSome = oky at *
   generalize (findE l y).getD default = z at *
   obtain ⟨z1, z2, z3, z4, z5, z6, z7, z8, z9, za, zc⟩ := z
   unfold Ev.agg at HFy
   simp only at HLk HFy
   go_wp2_with fail
   refine HFy.out.mono ?_
   rintro e w4 ⟨rfl, hb4⟩
   have hbm := below_next hbr hb4
   have hbn : Below w1.heap.size w1 (w4.alloc (.cells #[.string z1, .string z2, .int .i64 z3, .slice za z4.length zc, .int .i64 z5, .string z6, .string z7, .string z8, .string z9] 53)) := hbm.alloc hbm.size _
   have hbxn := (hbx.below hb4).alloc (.cells #[.string z1, .string z2, .int .i64 z3, .slice za z4.length zc, .int .i64 z5, .string z6, .string z7, .string z8, .string z9] 53)
   have Hbn := Lib.hid hbn
   have Hbxn := Lib.hid hbxn
   clear hbn hbxn hbm hbx hbr d0 hb4 HFy
   by_cases hc : at_ < z3
   ·
    rw [if_pos hc] at HLk
    have Hv := Lib.hid (Hfe.out 1 HLk.out (by decide) _ (below_next hb01 Hbn.out))
    go_wp2_with fail
    go_ret2
    exact Hv.out
   ·
    rw [if_neg hc] at HLk
    go_wp2_with fail
    rw [← Ha2.out]
    go_roundg (hds.length - (k + 1))
    case measure => have := hgk.out; omega
    case rel => exact ⟨k + 1, by go_num, by omega, rfl, zeros_succ hz0.out HLk.out, Hbxn.out, Hbn.out⟩
  ·
   obtain rfl : k = hds.length := by omega
   rw [firstErr_zero hz0.out] at HV
   clear hgk hk hlt
   have Hbx := Lib.hid hbx
   have Hb := Lib.hid hbr
   clear hbr
   have hbx_l := hbx.lt; have hbx_0 := hbx.cell 0; have hbx_1 := hbx.cell 1; have hbx_2 := hbx.cell 2; have hbx_3 := hbx.cell 3; have hbx_4 := hbx.cell 4; have hbx_5 := hbx.cell 5; have hbx_6 := hbx.cell 6; have hbx_7 := hbx.cell 7; have hbx_8 := hbx.cell 8; simp at hbx_0 hbx_1 hbx_2 hbx_3 hbx_4 hbx_5 hbx_6 hbx_7 hbx_8
   go_wp2_with fail
   refine (HS0.out _ (below_next hb01 Hb.out) ah ch (HSH.out _ Hb.out) hch).mono ?_
   rintro e w5 ⟨rfl, hb5⟩
   have HbN : Hid (Below w1.heap.size w1 w5) := below_next Hb.out hb5
   have HbxN := Lib.hid (Hbx.out.below hb5)
   clear hbx_l hbx_0 hbx_1 hbx_2 hbx_3 hbx_4 hbx_5 hbx_6 hbx_7 hbx_8
   clear hbx Hb Hbx
   have Hb := HbN
   have Hbx := HbxN
   have hbx := Hbx.out
   clear HbN HbxN
   have hbx_l := hbx.lt; have hbx_0 := hbx.cell 0; have hbx_1 := hbx.cell 1; have hbx_2 := hbx.cell 2; have hbx_3 := hbx.cell 3; have hbx_4 := hbx.cell 4; have hbx_5 := hbx.cell 5; have hbx_6 := hbx.cell 6; have hbx_7 := hbx.cell 7; have hbx_8 := hbx.cell 8; simp at hbx_0 hbx_1 hbx_2 hbx_3 hbx_4 hbx_5 hbx_6 hbx_7 hbx_8
   clear hb5 HS0
   have hbx_f0 := hbx.frozen 0
   have hbx6 : Box (w5.setCell ⟨q, 0, none⟩ (.string sm)) q 53 #[.string sm, .string desk, .int .i64 at_, .slice ah hds.length ch, .int .i64 kind, .string who, .string paper, .string wth, .string txt] := by have := hbx.set 0 (.string sm); simpa using this
   have hb6 : Below w1.heap.size w1 (w5.setCell ⟨q, 0, none⟩ (.string sm)) := Hb.out.setCell (by show _ ≤ q; rw [← Hq.out]; exact Nat.le_refl _) _
   go_upto_region 18 with (fail)
   generalize w5.setCell ⟨q, 0, none⟩ (.string sm) = w6 at *
   clear hbx_l hbx_0 hbx_1 hbx_2 hbx_3 hbx_4 hbx_5 hbx_6 hbx_7 hbx_8
   clear hbx hbx_f0 Hbx Hb
   have hb06 := below_next hb01 hb6
   have hz06 := hb06.size
   have hz16 := hb6.size
   have hql := hbx6.lt
   have HCl : Hid (∀ W, Below w6.heap.size w6 W → Calls Tryz.prog 39 #[.slice a l.length cap] W (GivesOwn 53 l W)) := fun W h => cloneEv_any l a cap W (HS.out _ (below_next hb06 h)).1 haf (by omega)
   go_cut [25] (fun v wx => ∃ lo, w6.heap.size ≤ lo ∧ Own lo 53 wx v (l ++ [(⟨sm, desk, at_, hds, kind, who, paper, wth, txt, ah, ch⟩ : Ev)]) ∧ Below w6.heap.size w6 wx)
   case first =>
    refine wp_region_held_drew (S := (fun wx => Box wx q 53 #[.string sm, .string desk, .int .i64 at_, .slice ah hds.length ch, .int .i64 kind, .string who, .string paper, .string wth, .string txt] ∧ Below w6.heap.size w6 wx)) (by kernel_rfl) ?hS (fun hHeld => ?_)
    case hS => exact ⟨hbx6.drew, (Below.refl _ _).drew⟩
    refine rt 0 (some 75) ?_
    refine rtake (i := 2) (d := (some 77)) (v := ?_) rfl (by kernel_rfl) (by kernel_rfl) (by kernel_rfl) (by kernel_rfl) (fun _ _ _ h => h) (by kernel_rfl) (by assumption) ?_ ?_
    rotate_left 1
    ·
     (intro wI hSI; (have g0 := hSI.1.cell 0; have g1 := hSI.1.cell 1; have g2 := hSI.1.cell 2; have g3 := hSI.1.cell 3; have g4 := hSI.1.cell 4; have g5 := hSI.1.cell 5; have g6 := hSI.1.cell 6; have g7 := hSI.1.cell 7; have g8 := hSI.1.cell 8; simp at g0 g1 g2 g3 g4 g5 g6 g7 g8; clear hSI); go_simp; (try with_reducible rfl))
    simp only [Act.put, lsetA, lsetZ, lsetS]
    refine rcall2 (i := 1) (j := 3) (di := some 76) (dj := some 78) (by kernel_rfl) rfl (by kernel_rfl) rfl (by kernel_rfl) (fun K hK => ?_) (fun K hK => ?_)
    ·
     go_simp
     go_at_call 39
     refine (HCl.out _ hHeld.2).mono ?_
     rintro e u1 ⟨vc, rfl, hownc, hbu⟩
     refine hK.out _ _ ?hS (fun hHeldN => ?_)
     case hS => exact ⟨hHeld.1.below hbu, below_next hHeld.2 hbu⟩
     clear hK K hHeld
     have hHeld := hHeldN
     simp only [Act.put, lsetA, lsetZ, lsetS]
     have hzu : w6.heap.size ≤ u1.heap.size := hHeld.2.size
     have hll : ∀ j, vc.ownBlock = some j → w6.heap.size ≤ j := fun j hj => (hownc.lt j hj).1
     refine rcall (i := 3) (d := (some 78)) (by kernel_rfl) rfl (by kernel_rfl) (fun K hK => ?_)
     go_simp
     skip
     refine hK.out _ _ ?hS (fun hHeld => ?_)
     case hS => exact ⟨hHeld.1.alloc _, hHeld.2.alloc hHeld.2.size _⟩
     clear hK K
     simp only [Act.put, lsetA, lsetZ, lsetS]
     refine rcall (i := 4) (d := (some 79)) (by kernel_rfl) rfl (by kernel_rfl) (fun K hK => ?_)
     refine step_append_one (α := Ev) (by rfl) _ _ 26 (by rfl) 53 136 (.agg #[.string ⟨#[]⟩, .string ⟨#[]⟩, .int .i64 0, .slice none 0 0, .int .i64 0, .string ⟨#[]⟩, .string ⟨#[]⟩, .string ⟨#[]⟩, .string ⟨#[]⟩]) Tryz.underlying26 infoEv (by rfl) vc l (by rfl) (hownc.alloc (.cells #[.string sm, .string desk, .int .i64 at_, .slice ah hds.length ch, .int .i64 kind, .string who, .string paper, .string wth, .string txt] 53)) (⟨sm, desk, at_, hds, kind, who, paper, wth, txt, ah, ch⟩ : Ev) u1.heap.size (by rfl) (Box.new u1 53 #[.string sm, .string desk, .int .i64 at_, .slice ah hds.length ch, .int .i64 kind, .string who, .string paper, .string wth, .string txt]) (by omega) (by omega) (by show w6.heap.size ≤ (u1.heap.push _).size; rw [Array.size_push]; omega) ?_; intro g9 cap9 wX hown9 hg9; have hbX := Below.grown hHeld.2 hg9 (by show w6.heap.size ≤ (u1.heap.push _).size; rw [Array.size_push]; omega) hll
     refine hK.out _ _ ?hS (fun hHeld => ?_)
     case hS => exact ⟨hHeld.1.grown hg9 (fun h => by have := hll _ h.symm; omega), hbX⟩
     clear hK K
     simp only [Act.put, lsetA, lsetZ, lsetS]
     refine rt 5 (some 25) ?_
     refine wpAnyH_done (by kernel_rfl) ?_ _
     go_wp2_with fail
     go_meet
     exact ⟨w6.heap.size, Nat.le_refl _, hown9, hbX⟩
    ·
     go_simp
     have hbA : Below w6.heap.size w6 ((w6.alloc (.cells #[.string sm, .string desk, .int .i64 at_, .slice ah hds.length ch, .int .i64 kind, .string who, .string paper, .string wth, .string txt] 53)).drew) := ((Below.refl _ _).alloc (Nat.le_refl _) _).drew
     have hnb : Box ((w6.alloc (.cells #[.string sm, .string desk, .int .i64 at_, .slice ah hds.length ch, .int .i64 kind, .string who, .string paper, .string wth, .string txt] 53)).drew) w6.heap.size 53 #[.string sm, .string desk, .int .i64 at_, .slice ah hds.length ch, .int .i64 kind, .string who, .string paper, .string wth, .string txt] := (Box.new w6 53 #[.string sm, .string desk, .int .i64 at_, .slice ah hds.length ch, .int .i64 kind, .string who, .string paper, .string wth, .string txt]).drew
     refine hK.out _ _ ?hS (fun hHeldN => ?_)
     case hS => exact ⟨(hbx6.alloc _).drew, hbA⟩
     clear hK K hHeld
     have hHeld := hHeldN
     simp only [Act.put, lsetA, lsetZ, lsetS]
     generalize (w6.alloc (.cells #[.string sm, .string desk, .int .i64 at_, .slice ah hds.length ch, .int .i64 kind, .string who, .string paper, .string wth, .string txt] 53)).drew = u0 at *
     have hzu0 := hbA.size
     refine rcall (i := 1) (d := (some 76)) (by kernel_rfl) rfl (by kernel_rfl) (fun K hK => ?_)
     go_simp
     go_at_call 39; refine (HCl.out _ hHeld.2).mono ?_; rintro e u1 ⟨vc, rfl, hownc, hbu⟩; have hnb2 := hnb.below hbu; have hll : ∀ j, vc.ownBlock = some j → u0.heap.size ≤ j := fun j hj => (hownc.lt j hj).1
     refine hK.out _ _ ?hS (fun hHeld => ?_)
     case hS => exact ⟨hHeld.1.below hbu, below_next hHeld.2 hbu⟩
     clear hK K
     simp only [Act.put, lsetA, lsetZ, lsetS]
     have hzu := hHeld.2.size
     have hzu1 := hbu.size
     refine rcall (i := 4) (d := (some 79)) (by kernel_rfl) rfl (by kernel_rfl) (fun K hK => ?_)
     refine step_append_one (α := Ev) (by rfl) _ _ 26 (by rfl) 53 136 (.agg #[.string ⟨#[]⟩, .string ⟨#[]⟩, .int .i64 0, .slice none 0 0, .int .i64 0, .string ⟨#[]⟩, .string ⟨#[]⟩, .string ⟨#[]⟩, .string ⟨#[]⟩]) Tryz.underlying26 infoEv (by rfl) vc l (by rfl) hownc (⟨sm, desk, at_, hds, kind, who, paper, wth, txt, ah, ch⟩ : Ev) w6.heap.size (by rfl) hnb2 (by omega) (by omega) hzu1 ?_; intro g9 cap9 wX hown9 hg9; have hbX := Below.grown hHeld.2 hg9 hzu (fun j hj => by have := hll j hj; omega)
     refine hK.out _ _ ?hS (fun hHeld => ?_)
     case hS => exact ⟨hHeld.1.grown hg9 (fun h => by have := hll _ h.symm; omega), hbX⟩
     clear hK K
     simp only [Act.put, lsetA, lsetZ, lsetS]
     refine rt 5 (some 25) ?_
     refine wpAnyH_done (by kernel_rfl) ?_ _
     go_wp2_with fail
     go_meet
     exact ⟨u0.heap.size, hzu0, hown9, hbX⟩
   case rest =>
    obtain ⟨lo, hlo, hown7, hb7⟩ := hcut
    obtain ⟨av, cv, rfl, hsa7, hf7, hc7⟩ := hown7.form
    have hol := hown7.lt
    have HSort := Lib.hid (sortEvs_any lo _ _ wc 65 (enters_of Tryz.func65 (by kernel_rfl) rfl) (fun x y W => refBySum_any x y W) hown7 (by rw [List.length_append]; show l.length + 1 ≤ _; omega))
    have hll1 : (l ++ [(⟨sm, desk, at_, hds, kind, who, paper, wth, txt, ah, ch⟩ : Ev)]).length = l.length + 1 := by rw [List.length_append]; rfl
    rw [hll1] at HSort ⊢
    clear hsa7 hf7 hc7
    go_wp2_with fail
    refine HSort.out.mono ?_
    rintro e w8 ⟨rfl, hown8, hk8⟩
    have hb8 : Below w6.heap.size w6 w8 := belowKp hb7 hk8 (fun j hj => by have := (hol j (by rw [← hll1] at hj; exact hj)).1; omega) hb7.size
    have hbF := below_next hb06 hb8
    have hbF1 := below_next hb6 hb8
    have hNL : NL base 53 w8 (.slice av (l.length + 1) cv) (sortE (l ++ [(⟨sm, desk, at_, hds, kind, who, paper, wth, txt, ah, ch⟩ : Ev)])) := NL.ofOwn (w := w6) hown8 (by omega) hlo (sortE_all (fun e he => (List.mem_append.1 he).elim (fun h => (HS.out _ hbF).2 e h) (fun h => by rw [List.mem_singleton.1 h]; exact ⟨HSH.out _ hbF1, hch⟩))) (sortE_all (P := fun e => ∀ y, e.a = some y → base ≤ y.block ∧ y.block < w6.heap.size) (fun e he => (List.mem_append.1 he).elim (fun h y hy => by have := HAD.out e h y hy; omega) (fun h y hy => by
     rw [List.mem_singleton.1 h] at hy
     have hy : ah = some y := hy
     rcases Hfh.out with hfh | ⟨bb, hfh, hb1, hb2⟩
     ·
      rw [hfh] at hy; cases hy
     ·
      rw [hfh] at hy; cases hy; exact ⟨by show base ≤ bb; omega, by show bb < _; omega⟩))) hb8.size
    go_wp2_with fail
    go_ret2
    exact ⟨_, _, by rw [HV.out] <;> rfl, hNL, hbF, fun h => absurd HV.out h, fun _ => ⟨ah, ch, by rw [HSm.out]⟩⟩
end Go.Proofs.YtnocceilpnmbpaaGreatDoor
