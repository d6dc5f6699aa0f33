/- Papers, readers and bids together: fieldOf of the program. -/
import Derived.Test.YtpgofjjcmldhpaaGreatDoorReaders
import Derived.Test.YtpgofjjcmldhpaaGreatDoorMapG
import Derived.Test.YtpgofjjcmldhpaaGreatDoorPaper1
import Derived.Test.YtpgofjjcmldhpaaGreatDoorLearnP
import Derived.Test.YtpgofjjcmldhpaaGreatDoorSkill6
/-! Papers, readers and bids together: fieldOf of the program. -/
namespace Go.Proofs.YtpgofjjcmldhpaaGreatDoor
open Go.RowKit
set_option linter.unusedVariables false
set_option linter.unusedSimpArgs false

def wantE (l : List Topic) (ps : List Paper) (i : Nat) : Int :=
  match ps[i]? with
  | none => 0
  | some p => wantedFault l p.topics
/-- A bid's paper and person are there. -/
def knownB (ps : List Paper) (rs : List Reader) (x : Mark) : Bool := ps.any (fun p => decide (p.id = x.1)) && rs.any (fun r => decide (r.key = x.2.1))
def fieldX (l : List Topic) (ps : List Paper) (rs : List Reader) (bs : List Mark) : Int :=
  if papersFault ps ≠ 0 then papersFault ps
  else if firstErr (wantE l ps) ps.length ≠ 0 then firstErr (wantE l ps) ps.length
  else if readersFault l rs ≠ 0 then readersFault l rs
  else if bidsFault bs ≠ 0 then bidsFault bs
  else if bs.all (knownB ps rs) = true then 0 else 8
def fieldE (l : List Topic) (ps : List Paper) (rs : List Reader) (bs : List Mark) : Int := if forestFault l ≠ 0 then forestFault l else fieldX l ps rs bs
/-- A set of keys. -/
def setE (ks : List ByteArray) : List (ByteArray × Value) := ks.foldl (fun es k => mput es k (.bool true)) []
theorem setE_snoc (ks : List ByteArray) (k : ByteArray) : setE (ks ++ [k]) = mput (setE ks) k (.bool true) := by unfold setE; rw [List.foldl_append]; rfl
theorem setE_getG (q : ByteArray) : ∀ (ks : List ByteArray) (es : List (ByteArray × Value)), mget (ks.foldl (fun es k => mput es k (.bool true)) es) q = if ks.any (fun y => decide (y = q)) then some (.bool true) else mget es q
  | [], es => by simp
  | k :: r, es => by
    rw [List.foldl_cons, setE_getG q r, mget_mput, List.any_cons]
    by_cases h : k = q
    · simp [h]
    · rw [decide_eq_false h, Bool.false_or]
      simp [h]
theorem setE_look (ks : List ByteArray) (q : ByteArray) : looked (setE ks) q (.bool false) false = .bool (ks.any (fun y => decide (y = q))) := by
  unfold looked setE
  rw [setE_getG]
  cases ks.any (fun y => decide (y = q)) <;> simp [mget]
/-- The levels of pairs. -/
def keyB2 (x : Mark) : Two := (x.1, x.2.1)
def lvE (bs : List Mark) : List (Two × Value) := bs.foldl (fun es x => gput es (keyB2 x) (.int .i64 x.2.2)) []
theorem lvE_snoc (bs : List Mark) (x : Mark) : lvE (bs ++ [x]) = gput (lvE bs) (keyB2 x) (.int .i64 x.2.2) := by unfold lvE; rw [List.foldl_append]; rfl

/-- A field in memory. -/
def FieldAt (w : World) (xb : Nat) (l : List Topic) (ps : List Paper) (pa : Option Addr) (pc : Nat) (rs : List Reader) (ra : Option Addr) (rc : Nat) (bs : List Mark) : Prop :=
  ∃ fb lb, Box w xb 135 #[.map (some fb), .slice pa ps.length pc, .slice ra rs.length rc, .map (some lb)] ∧ FMap w fb l l.length ∧ GBox enc2 ok2 w lb (lvE bs)
theorem FieldAt.below {w w' : World} {xb : Nat} {l : List Topic} {ps : List Paper} {pa : Option Addr} {pc : Nat} {rs : List Reader} {ra : Option Addr} {rc : Nat} {bs : List Mark} (h : FieldAt w xb l ps pa pc rs ra rc bs) (k : Below w.heap.size w w') : FieldAt w' xb l ps pa pc rs ra rc bs := by
  obtain ⟨fb, lb, h1, h2, h3⟩ := h
  exact ⟨fb, lb, h1.below k, h2.below k, h3.below k⟩
def GivesField (er : Int) (l : List Topic) (ps : List Paper) (pa : Option Addr) (pc : Nat) (rs : List Reader) (ra : Option Addr) (rc : Nat) (bs : List Mark) (w : World) (e : Ending) (w' : World) : Prop :=
  Below w.heap.size w w' ∧ ((er ≠ 0 ∧ e = .returned (.tuple #[.pointer none, .int .i64 er])) ∨ (er = 0 ∧ ∃ xb, e = .returned (.tuple #[.pointer (some ⟨xb, 0, none⟩), .int .i64 0]) ∧ FieldAt w' xb l ps pa pc rs ra rc bs))

set_option maxRecDepth 100000 in
set_option maxHeartbeats 8000000 in
theorem fieldOf_any (l : List Topic) (al : Option Addr) (capl : Nat) (ps : List Paper) (pa : Option Addr) (pc : Nat) (rs : List Reader) (ra : Option Addr) (rc : Nat) (bs : List Mark) (ba : Option Addr) (bc : Nat) (w : World) (hE0 : Env w) (hl : SA w al l) (hP : PapersAt w pa ps) (hR : ReadersAt w ra rs) (hB : SA w ba bs)
    (hlen : l.length ≤ 1000000) (hsT : SmallT l) (hpl : ps.length ≤ 1000) (hsm : ∀ p ∈ ps, PSmall p) (hrl : rs.length ≤ 1000) (hrm : ∀ r ∈ rs, RSmall r) (hbl : bs.length ≤ 1000000) (hbm : ∀ x ∈ bs, x.1.size ≤ 1000 ∧ x.2.1.size ≤ 1000) :
    Calls Tryz.prog 73 #[.slice al l.length capl, .slice pa ps.length pc, .slice ra rs.length rc, .slice ba bs.length bc] w (GivesField (fieldE l ps rs bs) l ps pa pc rs ra rc bs w) := by
  have HCF := Lib.hid (checkForest_any l al capl w hl hlen hsT)
  have HPF := Lib.hid (fun W (hE : Env W) (h : PapersAt W pa ps) => checkPapers_any ps pa pc W hE h (by omega) hsm)
  have HFE1 : Hid (forestFault l ≠ 0 → fieldE l ps rs bs = forestFault l) := fun h => by unfold fieldE; rw [if_pos h]
  have HFE2 : Hid (forestFault l = 0 → fieldE l ps rs bs = fieldX l ps rs bs) := fun h => by unfold fieldE; rw [if_neg (by simpa using h)]
  have HRF : Hid (forestFault l = 0 → RightF l) := fun h => (fault_zero h).2.1
  have HX1 : Hid (papersFault ps ≠ 0 → fieldX l ps rs bs = papersFault ps) := fun h => by unfold fieldX; rw [if_pos h]
  have HX2 : Hid (papersFault ps = 0 → firstErr (wantE l ps) ps.length ≠ 0 → fieldX l ps rs bs = firstErr (wantE l ps) ps.length) := fun h g => by unfold fieldX; rw [if_neg (by simpa using h), if_pos g]
  have HX3 : Hid (papersFault ps = 0 → firstErr (wantE l ps) ps.length = 0 → readersFault l rs ≠ 0 → fieldX l ps rs bs = readersFault l rs) := fun h g k => by unfold fieldX; rw [if_neg (by simpa using h), if_neg (by simpa using g), if_pos k]
  have HX4 : Hid (papersFault ps = 0 → firstErr (wantE l ps) ps.length = 0 → readersFault l rs = 0 → bidsFault bs ≠ 0 → fieldX l ps rs bs = bidsFault bs) := fun h g k m => by unfold fieldX; rw [if_neg (by simpa using h), if_neg (by simpa using g), if_neg (by simpa using k), if_pos m]
  have HX5 : Hid (papersFault ps = 0 → firstErr (wantE l ps) ps.length = 0 → readersFault l rs = 0 → bidsFault bs = 0 → fieldX l ps rs bs = if bs.all (knownB ps rs) = true then 0 else 8) := fun h g k m => by unfold fieldX; rw [if_neg (by simpa using h), if_neg (by simpa using g), if_neg (by simpa using k), if_neg (by simpa using m)]
  have hmm := @run_makeMap Tryz.prog
  generalize fieldE l ps rs bs = er at *
  generalize fieldX l ps rs bs = fx at *
  generalize papersFault ps = pf at *
  generalize hff : forestFault l = ff at *
  by_cases hf : ff = 0
  · subst hf
    have hfx := HFE2.out rfl
    have hRF := HRF.out rfl
    clear HFE1 HFE2 HRF
    subst hfx
    go_enter Tryz.func73, Tryz.ntmps73
    go_wp2_with fail
    refine HCF.out.mono ?_
    rintro e wf ⟨rfl, hbf⟩
    go_wp2_with fail
    refine (HPF.out _ (hE0.below hbf) (hP.below hbf)).mono ?_
    rintro e w0 ⟨rfl, hb0⟩
    have hb00 := below_next hbf hb0
    by_cases h0 : pf = 0
    · subst h0
      have HFo := Lib.hid (forestOf_any l al capl w0 (hl.below hb00) hlen hRF)
      replace HX2 := Lib.hid (HX2.out rfl)
      replace HX3 := Lib.hid (HX3.out rfl)
      replace HX4 := Lib.hid (HX4.out rfl)
      replace HX5 := Lib.hid (HX5.out rfl)
      go_wp2_with fail
      refine HFo.out.mono ?_
      rintro e W1 ⟨fb, rfl, hF1, hb1⟩
      have hbW1 := below_next hb00 hb1
      have hP1 := hP.below hbW1
      have hR1 := hR.below hbW1
      have hB1 := hB.below hbW1
      have hzW := hbW1.size
      clear HFo HCF HPF HX1 hE0 hl hP hR hB hbf hb0 hb00 hb1 hRF
      have hG := GBox.new enc2 ok2 W1
      have hX := Box.newAt (W1.alloc (.map #[] 0)) (W1.heap.size + 1) 135 #[.map (some fb), .slice pa ps.length pc, .slice ra rs.length rc, .map (some W1.heap.size)] (by simp)
      have hI := MBox.new ((W1.alloc (.map #[] 0)).alloc (.cells #[.map (some fb), .slice pa ps.length pc, .slice ra rs.length rc, .map (some W1.heap.size)] 135))
      have hJ := MBox.new (((W1.alloc (.map #[] 0)).alloc (.cells #[.map (some fb), .slice pa ps.length pc, .slice ra rs.length rc, .map (some W1.heap.size)] 135)).alloc (.map #[] 0))
      have hG4 := ((hG.alloc (.cells #[.map (some fb), .slice pa ps.length pc, .slice ra rs.length rc, .map (some W1.heap.size)] 135)).alloc (.map #[] 0)).alloc (.map #[] 0)
      have hX4 := (hX.alloc (.map #[] 0)).alloc (.map #[] 0)
      have hI4 := hI.alloc (.map #[] 0)
      simp at hI4 hJ
      have hb4 : Below W1.heap.size W1 ((((W1.alloc (.map #[] 0)).alloc (.cells #[.map (some fb), .slice pa ps.length pc, .slice ra rs.length rc, .map (some W1.heap.size)] 135)).alloc (.map #[] 0)).alloc (.map #[] 0)) := by (repeat' (first | exact Below.refl _ _ | assumption | refine Below.setCell ?_ ?_ _ | refine below_drewN ?_ _ | refine Below.drew ?_ | refine Below.alloc ?_ ?_ _ | (with_reducible refine Below.trans ?_ (Below.mono hb ?_)) | (with_reducible refine Below.trans ?_ (Below.mono hb0 ?_)) | (with_reducible refine Below.trans ?_ (Below.mono hb1 ?_)) | (with_reducible refine Below.trans ?_ (Below.mono hb2 ?_)) | (with_reducible refine Below.trans ?_ (Below.mono hb3 ?_)) | (with_reducible refine Below.trans ?_ (Below.mono hb4 ?_)) | (with_reducible refine Below.trans ?_ (Below.mono hb5 ?_)) | (with_reducible refine Below.trans ?_ (Below.mono hb6 ?_)) | (with_reducible refine Below.trans ?_ (Below.mono hb7 ?_)) | (with_reducible refine Below.trans ?_ (Below.mono hb8 ?_)) | (with_reducible refine Below.trans ?_ (Below.mono hb9 ?_)) | (with_reducible refine Below.trans ?_ (Below.mono hb10 ?_)) | (with_reducible refine Below.trans ?_ (Below.mono hb11 ?_)) | (with_reducible refine Below.trans ?_ (Below.mono hb12 ?_)) | (with_reducible refine Below.trans ?_ (Below.mono hb13 ?_)) | (with_reducible refine Below.trans ?_ (Below.mono hb14 ?_)) | (with_reducible refine Below.trans ?_ (Below.mono hb15 ?_)) | omega | (simp; done) | (simp; omega)))
      have hz4 : ((((W1.alloc (.map #[] 0)).alloc (.cells #[.map (some fb), .slice pa ps.length pc, .slice ra rs.length rc, .map (some W1.heap.size)] 135)).alloc (.map #[] 0)).alloc (.map #[] 0)).heap.size = W1.heap.size + 4 := by simp
      clear hG hX hI
      have HbW1 := Lib.hid hbW1
      clear hbW1
      go_wp2_with fail
      generalize ((((W1.alloc (.map #[] 0)).alloc (.cells #[.map (some fb), .slice pa ps.length pc, .slice ra rs.length rc, .map (some W1.heap.size)] 135)).alloc (.map #[] 0)).alloc (.map #[] 0)) = W4 at *
      have Hz4 := Lib.hid hz4
      clear hz4
      go_loopg [45] ps.length (fun gk i wr => ∃ k : Nat, i = .int .i64 k ∧ k ≤ ps.length ∧ Hid (gk = ps.length - k) ∧ Hid (∀ j, j < k → wantE l ps j = 0) ∧ MBox wr (W1.heap.size + 1 + 1) (setE ((ps.take k).map (·.id))) ∧ Kp (fun b => b = W1.heap.size + 1 + 1) W4 wr ∧ Below W1.heap.size W1 wr)
      case atStart => exact ⟨0, rfl, by omega, rfl, fun j hj => absurd hj (by omega), hI4, Kp.refl _ _, hb4⟩
      obtain ⟨k, rfl, hk, hgk, hf, hM, hkp, hb⟩ := hrel
      have hXr := hX4.kp hkp (by omega)
      have hzk := hkp.size
      rw [Hz4.out] at hzk
      by_cases hlt : k < ps.length
      · obtain ⟨pb, poff, ha, c0, c1, c2, c3, c4⟩ := (hP1.below hb).1.paper hlt
        have hrd := hP1.2 ps[k] (List.getElem_mem hlt)
        have hx := hsm ps[k] (List.getElem_mem hlt)
        have Htk := Lib.hid (List.take_succ_eq_append_getElem hlt)
        have HWE := Lib.hid (show wantE l ps k = wantedFault l ps[k].topics by unfold wantE; rw [List.getElem?_eq_getElem hlt])
        have Hfe := Lib.hid (fun (e : Int) he he0 => firstErr_is (f := wantE l ps) (e := e) hlt hf.out he he0)
        have Ha := Lib.hid ha
        rw [ha]
        clear ha
        generalize ps[k] = p at *
        obtain ⟨x1, x2, x3, au, tt, a1, n1, a2, n2⟩ := p
        obtain ⟨hr1, hr2, hr3⟩ := hrd
        obtain ⟨_, _, _, hx4, hx5, _, hx7⟩ := hx
        simp only at c0 c1 c2 c3 c4 hr1 hr2 hr3 hx4 hx5 hx7 HWE Htk
        have hsA := (hr2.below hb).alloc (.cells #[.string x1, .string x2, .string x3, .slice a1 au.length n1, .slice a2 tt.length n2] 86)
        have hB := Box.new wr 86 #[.string x1, .string x2, .string x3, .slice a1 au.length n1, .slice a2 tt.length n2]
        have hMa := hM.alloc (.cells #[.string x1, .string x2, .string x3, .slice a1 au.length n1, .slice a2 tt.length n2] 86)
        have hXa := hXr.alloc (.cells #[.string x1, .string x2, .string x3, .slice a1 au.length n1, .slice a2 tt.length n2] 86)
        have hka := hkp.alloc (.cells #[.string x1, .string x2, .string x3, .slice a1 au.length n1, .slice a2 tt.length n2] 86)
        have hba : Below W1.heap.size W1 (wr.alloc (.cells #[.string x1, .string x2, .string x3, .slice a1 au.length n1, .slice a2 tt.length n2] 86)) := by (repeat' (first | exact Below.refl _ _ | assumption | refine Below.setCell ?_ ?_ _ | refine below_drewN ?_ _ | refine Below.drew ?_ | refine Below.alloc ?_ ?_ _ | (with_reducible refine Below.trans ?_ (Below.mono hb ?_)) | (with_reducible refine Below.trans ?_ (Below.mono hb0 ?_)) | (with_reducible refine Below.trans ?_ (Below.mono hb1 ?_)) | (with_reducible refine Below.trans ?_ (Below.mono hb2 ?_)) | (with_reducible refine Below.trans ?_ (Below.mono hb3 ?_)) | (with_reducible refine Below.trans ?_ (Below.mono hb4 ?_)) | (with_reducible refine Below.trans ?_ (Below.mono hb5 ?_)) | (with_reducible refine Below.trans ?_ (Below.mono hb6 ?_)) | (with_reducible refine Below.trans ?_ (Below.mono hb7 ?_)) | (with_reducible refine Below.trans ?_ (Below.mono hb8 ?_)) | (with_reducible refine Below.trans ?_ (Below.mono hb9 ?_)) | (with_reducible refine Below.trans ?_ (Below.mono hb10 ?_)) | (with_reducible refine Below.trans ?_ (Below.mono hb11 ?_)) | (with_reducible refine Below.trans ?_ (Below.mono hb12 ?_)) | (with_reducible refine Below.trans ?_ (Below.mono hb13 ?_)) | (with_reducible refine Below.trans ?_ (Below.mono hb14 ?_)) | (with_reducible refine Below.trans ?_ (Below.mono hb15 ?_)) | omega | (simp; done) | (simp; omega)))
        have hFa := (hF1.below hba)
        clear hM hXr
        have hX0 := hXa.cell 0
        have hB4 := hB.cell 4
        go_upto_region 12 with (fail)
        refine wp_region_held_drew (S := (fun wx => wx.cell? ⟨W1.heap.size + 1, 0, none⟩ = some (.map (some fb)) ∧ wx.cell? ⟨wr.heap.size, 4, none⟩ = some (.slice a2 tt.length n2) ∧ Below W1.heap.size W1 wx)) (by kernel_rfl) ?hS (fun hHeld => ?_)
        case hS => exact ⟨hX0, hB4, hba.drew⟩
        refine rtake (i := 0) (d := (some 49)) (v := ?_) rfl (by kernel_rfl) (by kernel_rfl) (by kernel_rfl) (by kernel_rfl) (fun _ _ _ h => h) (by kernel_rfl) (by assumption) ?_ ?_
        rotate_left 1
        · (intro wI hSI; (try dsimp only at hSI); go_simp; (try with_reducible rfl))
        simp only [Act.put, List.setIfInBounds_toArray, List.set_cons_zero, List.set_cons_succ]
        refine rtake (i := 1) (d := (some 50)) (v := ?_) rfl (by kernel_rfl) (by kernel_rfl) (by kernel_rfl) (by kernel_rfl) (fun _ _ _ h => h) (by kernel_rfl) (by assumption) ?_ ?_
        rotate_left 1
        · (intro wI hSI; (try dsimp only at hSI); go_simp; (try with_reducible rfl))
        simp only [Act.put, List.setIfInBounds_toArray, List.set_cons_zero, List.set_cons_succ]
        refine rtake (i := 2) (d := (some 51)) (v := ?_) rfl (by kernel_rfl) (by kernel_rfl) (by kernel_rfl) (by kernel_rfl) (fun _ _ _ h => h) (by kernel_rfl) (by assumption) ?_ ?_
        rotate_left 1
        · (intro wI hSI; (try dsimp only at hSI); go_simp; (try with_reducible rfl))
        simp only [Act.put, List.setIfInBounds_toArray, List.set_cons_zero, List.set_cons_succ]
        refine rtake (i := 3) (d := (some 52)) (v := ?_) rfl (by kernel_rfl) (by kernel_rfl) (by kernel_rfl) (by kernel_rfl) (fun _ _ _ h => h) (by kernel_rfl) (by assumption) ?_ ?_
        rotate_left 1
        · (intro wI hSI; (try dsimp only at hSI); go_simp; (try with_reducible rfl))
        simp only [Act.put, List.setIfInBounds_toArray, List.set_cons_zero, List.set_cons_succ]
        refine rtake (i := 4) (d := (some 53)) (v := ?_) rfl (by kernel_rfl) (by kernel_rfl) (by kernel_rfl) (by kernel_rfl) (fun _ _ _ h => h) (by kernel_rfl) (by assumption) ?_ ?_
        rotate_left 1
        · (intro wI hSI; (try dsimp only at hSI); go_simp; (try with_reducible rfl))
        simp only [Act.put, List.setIfInBounds_toArray, List.set_cons_zero, List.set_cons_succ]
        refine rtake (i := 5) (d := (some 54)) (v := ?_) rfl (by kernel_rfl) (by kernel_rfl) (by kernel_rfl) (by kernel_rfl) (fun _ _ _ h => h) (by kernel_rfl) (by assumption) ?_ ?_
        rotate_left 1
        · (intro wI hSI; (try dsimp only at hSI); go_simp; (try with_reducible rfl))
        simp only [Act.put, List.setIfInBounds_toArray, List.set_cons_zero, List.set_cons_succ]
        refine rcall (i := 6) (d := (some 55)) (by kernel_rfl) rfl (by kernel_rfl) (fun K hK => ?_)
        go_simp
        go_at_call 112; refine (wantedFault_any l fb tt a2 n2 _ (hF1.below hHeld.2.2) (hr2.below hHeld.2.2) (by omega)).mono ?_; rintro e w3 ⟨rfl, hb3⟩
        refine hK.out _ _ ?hS (fun hHeld => ?_)
        case hS => exact ⟨cell_later hb3 hHeld.1, cell_later hb3 hHeld.2.1, below_next hHeld.2.2 hb3⟩
        clear hK K
        simp only [Act.put, List.setIfInBounds_toArray, List.set_cons_zero, List.set_cons_succ]
        refine rtake (i := 7) (d := (some 17)) (v := ?_) rfl (by kernel_rfl) (by kernel_rfl) (by kernel_rfl) (by kernel_rfl) (fun _ _ _ h => h) (by kernel_rfl) (by assumption) ?_ ?_
        rotate_left 1
        · (intro wI hSI; (try dsimp only at hSI); go_simp; (try with_reducible rfl))
        simp only [Act.put, List.setIfInBounds_toArray, List.set_cons_zero, List.set_cons_succ]
        refine wpAnyH_done (by kernel_rfl) ?_ _
        have hM3 := hMa.drew.below hb3
        have hB3 := hB.drew.below hb3
        have hb13 := hHeld.2.2
        have hk3 := hka.drew.trans (Kp.of_below (X := fun b => b = W1.heap.size + 1 + 1) hb3)
        have hz3 := hb13.size
        have hzM := hM3.lt
        clear hMa hB hXa hka hba hFa hHeld hX0 hB4 hsA
        have hsz := hx4
        by_cases hwf : wantedFault l tt = 0
        · rw [hwf] at HWE ⊢
          have HZ := Lib.hid (HWE.out)
          clear hwf
          have hB3_l := hB3.lt; have hB3_0 := hB3.cell 0; have hB3_1 := hB3.cell 1; have hB3_2 := hB3.cell 2; have hB3_3 := hB3.cell 3; have hB3_4 := hB3.cell 4; simp at hB3_0 hB3_1 hB3_2 hB3_3 hB3_4
          go_wp2_with (at_mapUpdate; refine wpList_mapUpdate_box rfl _ _ _ 160 rfl 9 4 Tryz.underlying160 Tryz.underlying9 (W1.heap.size + 1 + 1) _ rfl hM3 x1 rfl (.bool true) rfl ?_; intro W5 hM5 hg5 hs5)
          have hb5 : Below W1.heap.size W1 W5 := hb13.grown hg5 (by omega) (by rintro j hj; cases hj; omega)
          have hk5 := hk3.grown hg5 (fun j hj => .inl (Option.some.inj hj).symm)
          rw [← Ha.out]
          go_roundg (ps.length - (k + 1))
          case measure => have := hgk.out; omega
          case rel => exact ⟨k + 1, by go_num, by omega, rfl, zeros_succ hf.out HZ.out, by rw [Htk.out, List.map_append, List.map_singleton, setE_snoc]; exact hM5, hk5, hb5⟩
        · have hq : (wantedFault l tt != 0) = true := by simpa using hwf
          have He := Lib.hid (Hfe.out _ HWE.out hwf)
          have HNE := Lib.hid hwf
          clear hwf
          generalize wantedFault l tt = wf at *
          have HEr := HX2.out (by rw [He.out]; exact HNE.out)
          rw [He.out] at HEr
          have HEr := Lib.hid HEr
          go_wp2_with fail
          exact bodyPost_ret (v := .tuple #[.pointer none, .int .i64 wf]) (by simp only [results, Tryz.results73]; go_simp) rfl ⟨below_next HbW1.out hb13, .inl ⟨by first | exact HNE.out | (rw [HEr.out]; exact HNE.out), by first | rfl | rw [HEr.out]⟩⟩
      · obtain rfl : k = ps.length := by omega
        rw [List.take_length] at hM
        have hfe := firstErr_zero hf.out
        replace HX3 := Lib.hid (HX3.out hfe)
        replace HX4 := Lib.hid (HX4.out hfe)
        replace HX5 := Lib.hid (HX5.out hfe)
        clear HX2 hfe hf hgk hlt hk
        have HRd := Lib.hid (readersFaultP_any l fb rs ra rc wr (hF1.below hb) (hR1.below hb) (by omega) hrm)
        have hX0 := hXr.cell 0
        by_cases hrf : readersFault l rs = 0
        · rw [hrf] at HRd
          replace HX4 := Lib.hid (HX4.out hrf)
          replace HX5 := Lib.hid (HX5.out hrf)
          clear HX3 hrf
          go_wp2_with fail
          refine HRd.out.mono ?_
          rintro e w5 ⟨rfl, hb5⟩
          have hb15 := below_next hb hb5
          have hk5 := hkp.trans (Kp.of_below (X := fun b => b = W1.heap.size + 1 + 1) hb5)
          have hM5 := hM.below hb5
          clear hb hkp hM hXr hX0 hb5 HRd
          have HCB := Lib.hid (checkBids_any bs ba bc w5 (hB1.below hb15) hbl hbm)
          by_cases hbf : bidsFault bs = 0
          · rw [hbf] at HCB
            replace HX5 := Lib.hid (HX5.out hbf)
            clear HX4 hbf
            go_wp2_with fail
            refine HCB.out.mono ?_
            rintro e W6 ⟨rfl, hb6⟩
            have hb16 := below_next hb15 hb6
            have hk6 := hk5.trans (Kp.of_below (X := fun b => b = W1.heap.size + 1 + 1) hb6)
            have hM6 := hM5.below hb6
            have hJ6 : MBox W6 (W1.heap.size + 1 + 1 + 1) [] := hJ.same (hk6.block _ (by have := hJ.lt; omega) (by omega))
            clear hb15 hk5 hM5 hb6 HCB
            go_wp2_with fail
            go_loopg [79] rs.length (fun gk i wr => ∃ k : Nat, i = .int .i64 k ∧ k ≤ rs.length ∧ Hid (gk = rs.length - k) ∧ MBox wr (W1.heap.size + 1 + 1 + 1) (setE ((rs.take k).map (·.key))) ∧ Kp (fun b => b = W1.heap.size + 1 + 1 + 1) W6 wr ∧ Below W1.heap.size W1 wr)
            case atStart => exact ⟨0, rfl, by omega, rfl, hJ6, Kp.refl _ _, hb16⟩
            obtain ⟨k, rfl, hk, hgk, hM, hkp, hb⟩ := hrel
            have hzk := hkp.size
            have hzM := hM.lt
            by_cases hlt : k < rs.length
            · obtain ⟨pb, poff, ha, c0, c1⟩ := (hR1.below hb).1.reader hlt
              have Htk := Lib.hid (List.take_succ_eq_append_getElem hlt)
              have Ha := Lib.hid ha
              rw [ha]
              clear ha
              generalize rs[k] = p at *
              obtain ⟨x1, xsk, xa, xc⟩ := p
              simp only at c0 c1 Htk
              have hMa := hM.alloc (.cells #[.string x1, .slice xa xsk.length xc] 92)
              have hka := hkp.alloc (.cells #[.string x1, .slice xa xsk.length xc] 92)
              have hba : Below W1.heap.size W1 (wr.alloc (.cells #[.string x1, .slice xa xsk.length xc] 92)) := by (repeat' (first | exact Below.refl _ _ | assumption | refine Below.setCell ?_ ?_ _ | refine below_drewN ?_ _ | refine Below.drew ?_ | refine Below.alloc ?_ ?_ _ | (with_reducible refine Below.trans ?_ (Below.mono hb ?_)) | (with_reducible refine Below.trans ?_ (Below.mono hb0 ?_)) | (with_reducible refine Below.trans ?_ (Below.mono hb1 ?_)) | (with_reducible refine Below.trans ?_ (Below.mono hb2 ?_)) | (with_reducible refine Below.trans ?_ (Below.mono hb3 ?_)) | (with_reducible refine Below.trans ?_ (Below.mono hb4 ?_)) | (with_reducible refine Below.trans ?_ (Below.mono hb5 ?_)) | (with_reducible refine Below.trans ?_ (Below.mono hb6 ?_)) | (with_reducible refine Below.trans ?_ (Below.mono hb7 ?_)) | (with_reducible refine Below.trans ?_ (Below.mono hb8 ?_)) | (with_reducible refine Below.trans ?_ (Below.mono hb9 ?_)) | (with_reducible refine Below.trans ?_ (Below.mono hb10 ?_)) | (with_reducible refine Below.trans ?_ (Below.mono hb11 ?_)) | (with_reducible refine Below.trans ?_ (Below.mono hb12 ?_)) | (with_reducible refine Below.trans ?_ (Below.mono hb13 ?_)) | (with_reducible refine Below.trans ?_ (Below.mono hb14 ?_)) | (with_reducible refine Below.trans ?_ (Below.mono hb15 ?_)) | omega | (simp; done) | (simp; omega)))
              have hzb := hba.size
              clear hM
              go_wp2_with (at_mapUpdate; refine wpList_mapUpdate_box rfl _ _ _ 160 rfl 9 4 Tryz.underlying160 Tryz.underlying9 (W1.heap.size + 1 + 1 + 1) _ rfl hMa x1 rfl (.bool true) rfl ?_; intro W7 hM7 hg7 hs7)
              have hb7 : Below W1.heap.size W1 W7 := hba.grown hg7 (by omega) (by rintro j hj; cases hj; omega)
              have hk7 := hka.grown hg7 (fun j hj => .inl (Option.some.inj hj).symm)
              rw [← Ha.out]
              go_roundg (rs.length - (k + 1))
              case measure => have := hgk.out; omega
              case rel => exact ⟨k + 1, by go_num, by omega, rfl, by rw [Htk.out, List.map_append, List.map_singleton, setE_snoc]; exact hM7, hk7, hb7⟩
            · obtain rfl : k = rs.length := by omega
              rw [List.take_length] at hM
              clear hlt hk hgk hJ6
              have hI7 : MBox wr (W1.heap.size + 1 + 1) (setE (ps.map (·.id))) := hM6.same (hkp.block _ hM6.lt (by omega))
              have hG7 := (hG4.kp hk6 (by omega)).kp hkp (by omega)
              have hX7 := (hX4.kp hk6 (by omega)).kp hkp (by omega)
              clear hM6 hG4 hX4 hI4 hJ hk6 hkp hb16 hb4
              go_wp2_with fail
              obtain ⟨wz, hwz⟩ : ∃ wz : World, wz = wr := ⟨_, rfl⟩
              have Hwz := Lib.hid hwz
              clear hwz
              go_loopg [89] bs.length (fun gk i wr => ∃ k : Nat, i = .int .i64 k ∧ k ≤ bs.length ∧ Hid (gk = bs.length - k) ∧ Hid (∀ x ∈ bs.take k, knownB ps rs x = true) ∧ GBox enc2 ok2 wr W1.heap.size (lvE (bs.take k)) ∧ Kp (fun b => b = W1.heap.size) wz wr ∧ Below W1.heap.size W1 wr)
              case atStart => exact ⟨0, rfl, by omega, rfl, fun x hx => (by cases hx), hG7, by rw [Hwz.out]; exact Kp.refl _ _, hb⟩
              rw [← Hwz.out] at hM hI7 hX7 hzk hzM
              clear hb hG7 Hwz
              obtain ⟨k, rfl, hk, hgk, hf, hG, hkp, hb⟩ := hrel
              have hzr := hkp.size
              by_cases hlt : k < bs.length
              · obtain ⟨pb, poff, ha, c0, c1, c2⟩ := (hB1.below hb).mark hlt
                have Htk := Lib.hid (List.take_succ_eq_append_getElem hlt)
                have Hmem := Lib.hid (List.getElem_mem hlt)
                have hsz := hbm bs[k] (List.getElem_mem hlt)
                have Ha := Lib.hid ha
                rw [ha]
                clear ha
                generalize bs[k] = p at *
                obtain ⟨x1, x2, x3⟩ := p
                simp only at c0 c1 c2 Htk hsz
                have hka := hkp.alloc (.cells #[.string x1, .string x2, .int .i64 x3] 96)
                have hIa := hI7.same (hka.block _ hI7.lt (by omega))
                have hMa := hM.same (hka.block _ hM.lt (by omega))
                have hXa := hX7.kp hka (by omega)
                have hGa := hG.alloc (.cells #[.string x1, .string x2, .int .i64 x3] 96)
                have hB := Box.new wr 96 #[.string x1, .string x2, .int .i64 x3]
                have hba : Below W1.heap.size W1 (wr.alloc (.cells #[.string x1, .string x2, .int .i64 x3] 96)) := by (repeat' (first | exact Below.refl _ _ | assumption | refine Below.setCell ?_ ?_ _ | refine below_drewN ?_ _ | refine Below.drew ?_ | refine Below.alloc ?_ ?_ _ | (with_reducible refine Below.trans ?_ (Below.mono hb ?_)) | (with_reducible refine Below.trans ?_ (Below.mono hb0 ?_)) | (with_reducible refine Below.trans ?_ (Below.mono hb1 ?_)) | (with_reducible refine Below.trans ?_ (Below.mono hb2 ?_)) | (with_reducible refine Below.trans ?_ (Below.mono hb3 ?_)) | (with_reducible refine Below.trans ?_ (Below.mono hb4 ?_)) | (with_reducible refine Below.trans ?_ (Below.mono hb5 ?_)) | (with_reducible refine Below.trans ?_ (Below.mono hb6 ?_)) | (with_reducible refine Below.trans ?_ (Below.mono hb7 ?_)) | (with_reducible refine Below.trans ?_ (Below.mono hb8 ?_)) | (with_reducible refine Below.trans ?_ (Below.mono hb9 ?_)) | (with_reducible refine Below.trans ?_ (Below.mono hb10 ?_)) | (with_reducible refine Below.trans ?_ (Below.mono hb11 ?_)) | (with_reducible refine Below.trans ?_ (Below.mono hb12 ?_)) | (with_reducible refine Below.trans ?_ (Below.mono hb13 ?_)) | (with_reducible refine Below.trans ?_ (Below.mono hb14 ?_)) | (with_reducible refine Below.trans ?_ (Below.mono hb15 ?_)) | omega | (simp; done) | (simp; omega)))
                have hl1 := hIa.look Tryz.underlying160 Tryz.underlying9 (.bool false) (fun w => Tryz.zeroValue4 w) x1 false
                have hl2 := hMa.look Tryz.underlying160 Tryz.underlying9 (.bool false) (fun w => Tryz.zeroValue4 w) x2 false
                rw [setE_look, List.any_map] at hl1 hl2
                have HKB : Hid (knownB ps rs (x1, x2, x3) = (ps.any ((fun y => decide (y = x1)) ∘ (·.id)) && rs.any ((fun y => decide (y = x2)) ∘ (·.key)))) := rfl
                generalize ps.any ((fun y => decide (y = x1)) ∘ (·.id)) = q1 at *
                generalize rs.any ((fun y => decide (y = x2)) ∘ (·.key)) = q2 at *
                clear hG hIa hMa
                cases q1 <;> cases q2
                · have HN := Lib.hid (show knownB ps rs (x1, x2, x3) = false by rw [HKB.out]; rfl)
                  have HEr := Lib.hid (HX5.out.trans (if_neg (fun h => by have := List.all_eq_true.1 h _ Hmem.out; rw [HN.out] at this; cases this)))
                  have HNE := Lib.hid (show (8 : Int) ≠ 0 by decide)
                  clear HKB
                  go_wp2_with fail
                  exact bodyPost_ret (v := .tuple #[.pointer none, .int .i64 8]) (by simp only [results, Tryz.results73]; go_simp) rfl ⟨below_next HbW1.out hba, .inl ⟨by first | exact HNE.out | (rw [HEr.out]; exact HNE.out), by first | rfl | rw [HEr.out]⟩⟩
                · have HN := Lib.hid (show knownB ps rs (x1, x2, x3) = false by rw [HKB.out]; rfl)
                  have HEr := Lib.hid (HX5.out.trans (if_neg (fun h => by have := List.all_eq_true.1 h _ Hmem.out; rw [HN.out] at this; cases this)))
                  have HNE := Lib.hid (show (8 : Int) ≠ 0 by decide)
                  clear HKB
                  go_wp2_with fail
                  exact bodyPost_ret (v := .tuple #[.pointer none, .int .i64 8]) (by simp only [results, Tryz.results73]; go_simp) rfl ⟨below_next HbW1.out hba, .inl ⟨by first | exact HNE.out | (rw [HEr.out]; exact HNE.out), by first | rfl | rw [HEr.out]⟩⟩
                · have HN := Lib.hid (show knownB ps rs (x1, x2, x3) = false by rw [HKB.out]; rfl)
                  have HEr := Lib.hid (HX5.out.trans (if_neg (fun h => by have := List.all_eq_true.1 h _ Hmem.out; rw [HN.out] at this; cases this)))
                  have HNE := Lib.hid (show (8 : Int) ≠ 0 by decide)
                  clear HKB
                  go_wp2_with fail
                  exact bodyPost_ret (v := .tuple #[.pointer none, .int .i64 8]) (by simp only [results, Tryz.results73]; go_simp) rfl ⟨below_next HbW1.out hba, .inl ⟨by first | exact HNE.out | (rw [HEr.out]; exact HNE.out), by first | rfl | rw [HEr.out]⟩⟩
                · have HKn := Lib.hid (show knownB ps rs (x1, x2, x3) = true by rw [HKB.out]; rfl)
                  have hX3 := hXa.cell 3
                  have hB0 := hB.cell 0
                  have hB1' := hB.cell 1
                  have hB2 := hB.cell 2
                  clear HKB
                  go_upto_region 33 with (fail)
                  refine wp_region_held_drew (S := (fun wx => wx.cell? ⟨W1.heap.size + 1, 3, none⟩ = some (.map (some W1.heap.size)) ∧ wx.cell? ⟨wr.heap.size, 0, none⟩ = some (.string x1) ∧ wx.cell? ⟨wr.heap.size, 1, none⟩ = some (.string x2) ∧ wx.cell? ⟨wr.heap.size, 2, none⟩ = some (.int .i64 x3))) (by kernel_rfl) ?hS (fun hHeld => ?_)
                  case hS => exact ⟨hX3, hB0, hB1', hB2⟩
                  refine rtake (i := 0) (d := (some 107)) (v := ?_) rfl (by kernel_rfl) (by kernel_rfl) (by kernel_rfl) (by kernel_rfl) (fun _ _ _ h => h) (by kernel_rfl) (by assumption) ?_ ?_
                  rotate_left 1
                  · (intro wI hSI; (try dsimp only at hSI); go_simp; (try with_reducible rfl))
                  simp only [Act.put, List.setIfInBounds_toArray, List.set_cons_zero, List.set_cons_succ]
                  refine rtake (i := 1) (d := (some 108)) (v := ?_) rfl (by kernel_rfl) (by kernel_rfl) (by kernel_rfl) (by kernel_rfl) (fun _ _ _ h => h) (by kernel_rfl) (by assumption) ?_ ?_
                  rotate_left 1
                  · (intro wI hSI; (try dsimp only at hSI); go_simp; (try with_reducible rfl))
                  simp only [Act.put, List.setIfInBounds_toArray, List.set_cons_zero, List.set_cons_succ]
                  refine rtake (i := 2) (d := (some 109)) (v := ?_) rfl (by kernel_rfl) (by kernel_rfl) (by kernel_rfl) (by kernel_rfl) (fun _ _ _ h => h) (by kernel_rfl) (by assumption) ?_ ?_
                  rotate_left 1
                  · (intro wI hSI; (try dsimp only at hSI); go_simp; (try with_reducible rfl))
                  simp only [Act.put, List.setIfInBounds_toArray, List.set_cons_zero, List.set_cons_succ]
                  refine rtake (i := 3) (d := (some 110)) (v := ?_) rfl (by kernel_rfl) (by kernel_rfl) (by kernel_rfl) (by kernel_rfl) (fun _ _ _ h => h) (by kernel_rfl) (by assumption) ?_ ?_
                  rotate_left 1
                  · (intro wI hSI; (try dsimp only at hSI); go_simp; (try with_reducible rfl))
                  simp only [Act.put, List.setIfInBounds_toArray, List.set_cons_zero, List.set_cons_succ]
                  refine rtake (i := 4) (d := (some 111)) (v := ?_) rfl (by kernel_rfl) (by kernel_rfl) (by kernel_rfl) (by kernel_rfl) (fun _ _ _ h => h) (by kernel_rfl) (by assumption) ?_ ?_
                  rotate_left 1
                  · (intro wI hSI; (try dsimp only at hSI); go_simp; (try with_reducible rfl))
                  simp only [Act.put, List.setIfInBounds_toArray, List.set_cons_zero, List.set_cons_succ]
                  refine rtake (i := 5) (d := (some 112)) (v := ?_) rfl (by kernel_rfl) (by kernel_rfl) (by kernel_rfl) (by kernel_rfl) (fun _ _ _ h => h) (by kernel_rfl) (by assumption) ?_ ?_
                  rotate_left 1
                  · (intro wI hSI; (try dsimp only at hSI); go_simp; (try with_reducible rfl))
                  simp only [Act.put, List.setIfInBounds_toArray, List.set_cons_zero, List.set_cons_succ]
                  refine rtake (i := 6) (d := (some 113)) (v := ?_) rfl (by kernel_rfl) (by kernel_rfl) (by kernel_rfl) (by kernel_rfl) (fun _ _ _ h => h) (by kernel_rfl) (by assumption) ?_ ?_
                  rotate_left 1
                  · (intro wI hSI; (try dsimp only at hSI); go_simp; (try with_reducible rfl))
                  simp only [Act.put, List.setIfInBounds_toArray, List.set_cons_zero, List.set_cons_succ]
                  refine rtake (i := 7) (d := (some 114)) (v := ?_) rfl (by kernel_rfl) (by kernel_rfl) (by kernel_rfl) (by kernel_rfl) (fun _ _ _ h => h) (by kernel_rfl) (by assumption) ?_ ?_
                  rotate_left 1
                  · (intro wI hSI; (try dsimp only at hSI); go_simp; (try with_reducible rfl))
                  simp only [Act.put, List.setIfInBounds_toArray, List.set_cons_zero, List.set_cons_succ]
                  refine rcall (i := 8) (d := none) (by kernel_rfl) rfl (by kernel_rfl) (fun K hK => ?_)
                  refine step_mapUpdate_gbox rfl _ _ _ _ rfl _ _ Tryz.underlying133 keys2 W1.heap.size _ rfl hGa.drew (x1, x2) ⟨by show x1.size ≤ 1000000; omega, by show x2.size ≤ 1000000; omega⟩ rfl (.int .i64 x3) rfl ?_; intro W5 hG5 hg5 hs5; have hb5 : Below W1.heap.size W1 W5 := hba.drew.grown hg5 (by simp; omega) (by rintro j hj; cases hj; omega); have hk5 := hka.drew.grown hg5 (fun j hj => .inl (Option.some.inj hj).symm); have hB5 := hB.drew.grown hg5 (by simp; omega)
                  refine hK.out undef _ ?hS (fun hHeld => ?_)
                  case hS => exact ⟨(hXa.drew.grown hg5 (by simp)).cell 3, hB5.cell 0, hB5.cell 1, hB5.cell 2⟩
                  clear hK K
                  simp only [Act.put, List.setIfInBounds_toArray, List.set_cons_zero, List.set_cons_succ]
                  refine wpAnyH_done (by kernel_rfl) ?_ _
                  rw [← Ha.out]
                  clear hX3 hB0 hB1' hB2 hg5 hs5 hba hka hGa hB hXa hl1 hl2
                  go_wp2_with fail
                  go_roundg (bs.length - (k + 1))
                  case measure => have := hgk.out; omega
                  case rel => exact ⟨k + 1, by go_num, by omega, rfl, by rw [Htk.out]; exact fun x hx => (List.mem_append.1 hx).elim (hf.out x) (fun h => by rw [List.mem_singleton.1 h]; exact HKn.out), by rw [Htk.out, lvE_snoc]; exact hG5, hk5, hb5⟩
              · obtain rfl : k = bs.length := by omega
                rw [List.take_length] at hG hf
                have HEr := Lib.hid (HX5.out.trans (if_pos (List.all_eq_true.2 hf.out)))
                have hXr := hX7.kp hkp (by omega)
                have hFr := hF1.below hb
                clear hlt hf hgk hk
                go_wp2_with fail
                exact bodyPost_ret (v := .tuple #[.pointer (some ⟨W1.heap.size + 1, 0, none⟩), .int .i64 0]) (by simp only [results, Tryz.results73]; go_simp) rfl ⟨below_next HbW1.out hb, .inr ⟨HEr.out, _, rfl, _, _, hXr, hFr, hG⟩⟩
          · have hq : (bidsFault bs != 0) = true := by simpa using hbf
            have HEr := Lib.hid (HX4.out hbf)
            have HNE := Lib.hid hbf
            clear hbf HX5 HX4
            generalize bidsFault bs = wf at *
            go_wp2_with fail
            refine HCB.out.mono ?_
            rintro e W6 ⟨rfl, hb6⟩
            go_wp2_with fail
            exact bodyPost_ret (v := .tuple #[.pointer none, .int .i64 wf]) (by simp only [results, Tryz.results73]; go_simp) rfl ⟨below_next HbW1.out (below_next hb15 hb6), .inl ⟨by first | exact HNE.out | (rw [HEr.out]; exact HNE.out), by first | rfl | rw [HEr.out]⟩⟩
        · have hq : (readersFault l rs != 0) = true := by simpa using hrf
          have HEr := Lib.hid (HX3.out hrf)
          have HNE := Lib.hid hrf
          clear hrf HX5 HX4 HX3
          generalize readersFault l rs = wf at *
          go_wp2_with fail
          refine HRd.out.mono ?_
          rintro e w5 ⟨rfl, hb5⟩
          go_wp2_with fail
          exact bodyPost_ret (v := .tuple #[.pointer none, .int .i64 wf]) (by simp only [results, Tryz.results73]; go_simp) rfl ⟨below_next HbW1.out (below_next hb hb5), .inl ⟨by first | exact HNE.out | (rw [HEr.out]; exact HNE.out), by first | rfl | rw [HEr.out]⟩⟩
    · have hq : (pf != 0) = true := by simpa using h0
      have HEr := Lib.hid (HX1.out h0)
      have HNE := Lib.hid h0
      clear h0 HX1 HX2 HX3 HX4 HX5
      go_wp2_with fail
      exact bodyPost_ret (v := .tuple #[.pointer none, .int .i64 pf]) (by simp only [results, Tryz.results73]; go_simp) rfl ⟨hb00, .inl ⟨by first | exact HNE.out | (rw [HEr.out]; exact HNE.out), by first | rfl | rw [HEr.out]⟩⟩
  · have hq : (ff != 0) = true := by simpa using hf
    have HEr := Lib.hid (HFE1.out hf)
    have HNE := Lib.hid hf
    clear hf HFE1 HFE2 HX1 HX2 HX3 HX4 HX5
    go_enter Tryz.func73, Tryz.ntmps73
    go_wp2_with fail
    refine HCF.out.mono ?_
    rintro e wf ⟨rfl, hbf⟩
    go_wp2_with fail
    exact bodyPost_ret (v := .tuple #[.pointer none, .int .i64 ff]) (by simp only [results, Tryz.results73]; go_simp) rfl ⟨hbf, .inl ⟨by first | exact HNE.out | (rw [HEr.out]; exact HNE.out), by first | rfl | rw [HEr.out]⟩⟩
end Go.Proofs.YtpgofjjcmldhpaaGreatDoor

/-! slices.ContainsFunc over strings, papers and readers. -/
namespace Go.Proofs.YtpgofjjcmldhpaaGreatDoor
open Go.RowKit
set_option linter.unusedVariables false
set_option linter.unusedSimpArgs false

/-- A function value answers about each element. -/
def TestAt {α : Type} (enc : α → Value) (g : Nat) (lb : Array Value) (c : α → Bool) (l : List α) (w : World) : Prop :=
  ∀ x ∈ l, ∀ W : World, Below w.heap.size w W → Calls Tryz.prog g (#[enc x] ++ lb) W (Gives (.bool (c x)) W)
theorem any_at {α : Type} {c : α → Bool} {l : List α} {i : Nat} (hi : i < l.length) (h : c l[i] = true) : l.any c = true := List.any_eq_true.2 ⟨_, List.getElem_mem hi, h⟩
theorem any_none {α : Type} {c : α → Bool} {l : List α} (h : ∀ x ∈ l.take l.length, c x = false) : l.any c = false := by
  rw [List.take_length] at h
  rw [List.any_eq_false]
  exact fun x hx => by simp [h x hx]
theorem Gives.mono {v : Value} {w w' W : World} {e : Ending} (h : Gives v W e w') (hb : Below w.heap.size w W) : Gives v w e w' := ⟨h.1, below_next hb h.2⟩
/-- The first index that passes a test, or -1. -/
def idxI {α : Type} (c : α → Bool) (l : List α) : Int := match l.findIdx? c with | some k => k | none => -1
theorem idxI_at {α : Type} {c : α → Bool} {l : List α} {k : Nat} (hk : k < l.length) (h : c l[k] = true) (hf : ∀ x ∈ l.take k, c x = false) : idxI c l = k := by
  have : l.findIdx? c = some k := by
    rw [List.findIdx?_eq_some_iff_getElem]
    exact ⟨hk, h, fun j hj => by simp [hf l[j] (List.mem_take_iff_getElem.2 ⟨j, by omega, rfl⟩)]⟩
  unfold idxI; rw [this]
theorem idxI_none {α : Type} {c : α → Bool} {l : List α} (h : ∀ x ∈ l.take l.length, c x = false) : idxI c l = -1 := by
  rw [List.take_length] at h
  have : l.findIdx? c = none := List.findIdx?_eq_none_iff.2 (fun x hx => h x hx)
  unfold idxI; rw [this]
def encPaper (p : Paper) : Value := .agg #[.string p.id, .string p.track, .string p.title, .slice p.a1 p.authors.length p.c1, .slice p.a2 p.topics.length p.c2]
def encReader (r : Reader) : Value := .agg #[.string r.key, .slice r.a r.skills.length r.c]

set_option maxRecDepth 100000 in
set_option maxHeartbeats 4000000 in
theorem indexStr_any (l : List ByteArray) (a : Option Addr) (cap g : Nat) (lb : Array Value) (c : ByteArray → Bool) (w : World) (eg : ∀ args w, (callFunc g args).run Tryz.prog w = .ok (.enter g args) w) (h : SA w a l) (hlen : l.length ≤ 1000000000) (hc : TestAt Value.string g lb c l w) :
    Calls Tryz.prog 109 #[.slice a l.length cap, .func (.func g) #[] lb] w (fun e w' => ∃ r : Int, e = .returned (.int .i64 r) ∧ decide (0 ≤ r) = l.any c ∧ Below w.heap.size w w' ∧ r = idxI c l) := by
  have HC := Lib.hid hc
  clear hc
  go_enter Tryz.func109, Tryz.ntmps109
  go_wp2_with fail
  go_loopg [8] l.length (fun gk i wr => ∃ k : Nat, i = .int .i64 k ∧ k ≤ l.length ∧ Hid (gk = l.length - k) ∧ Hid (∀ x ∈ l.take k, c x = false) ∧ Below w.heap.size w wr)
  case atStart => exact ⟨0, rfl, by omega, rfl, fun x hx => (by cases hx), Below.refl _ _⟩
  case round =>
    obtain ⟨k, rfl, hk, hgk, hf, hb⟩ := hrel
    by_cases hlt : k < l.length
    · obtain ⟨b, off, ha, c0⟩ := (h.below hb).str hlt
      have HCx := Lib.hid (HC.out l[k] (List.getElem_mem hlt) wr hb)
      have Hat := Lib.hid (any_at (c := c) hlt)
      have Htk := Lib.hid (List.take_succ_eq_append_getElem hlt)
      have Hix := Lib.hid (fun h => idxI_at (c := c) hlt h hf.out)
      have Ha := Lib.hid ha
      rw [ha]
      clear ha
      generalize l[k] = x at *
      obtain x := x
      (try simp only at *)
      have hk1 : (0 : Int) ≤ (k : Int) := by omega
      have hk2 : (k : Int) < (l.length : Int) := by omega
      obtain ⟨cx, hcx⟩ : ∃ cx, c x = cx := ⟨_, rfl⟩
      rw [hcx] at HCx Hat Hix
      have Hcx := Lib.hid hcx
      clear hcx
      go_wp2_with fail
      refine HCx.out.mono ?_
      rintro e w1 ⟨rfl, hb1⟩
      have hb1' := below_next hb hb1
      cases cx
      · go_wp2_with fail
        rw [← Ha.out]
        go_roundg (l.length - (k + 1))
        case measure => have := hgk.out; omega
        case rel => exact ⟨k + 1, by go_num, by omega, rfl, by rw [Htk.out]; exact fun x hx => (List.mem_append.1 hx).elim (hf.out x) (fun h => by rw [List.mem_singleton.1 h]; exact Hcx.out), hb1'⟩
      · have Hany := Lib.hid (Hat.out rfl)
        have Hr := Lib.hid (Hix.out rfl)
        go_wp2_with fail
        go_ret
        exact ⟨_, rfl, by rw [Hany.out]; exact decide_eq_true hk1, hb1', Hr.out.symm⟩
    · obtain rfl : k = l.length := by omega
      have Hany := Lib.hid (any_none hf.out)
      have Hr := Lib.hid (idxI_none hf.out)
      go_wp2_with fail
      go_ret
      exact ⟨_, rfl, by rw [Hany.out]; rfl, hb, Hr.out.symm⟩
set_option maxHeartbeats 4000000 in
theorem findStr_any (l : List ByteArray) (a : Option Addr) (cap g : Nat) (lb : Array Value) (c : ByteArray → Bool) (w : World) (eg : ∀ args w, (callFunc g args).run Tryz.prog w = .ok (.enter g args) w) (h : SA w a l) (hlen : l.length ≤ 1000000000) (hc : TestAt Value.string g lb c l w) :
    Calls Tryz.prog 66 #[.slice a l.length cap, .func (.func g) #[] lb] w (Gives (.bool (l.any c)) w) := by
  have HI := Lib.hid (indexStr_any l a cap g lb c w eg h hlen hc)
  clear hc
  go_enter Tryz.func66, Tryz.ntmps66
  go_wp2_with fail
  refine HI.out.mono ?_
  rintro e w1 ⟨r, rfl, hr, hb, hri⟩
  clear hri
  go_wp2_with fail
  go_ret
  exact ⟨by rw [← hr] <;> rfl, hb⟩
set_option maxRecDepth 100000 in
set_option maxHeartbeats 4000000 in
theorem indexPaper_any (l : List Paper) (a : Option Addr) (cap g : Nat) (lb : Array Value) (c : Paper → Bool) (w : World) (eg : ∀ args w, (callFunc g args).run Tryz.prog w = .ok (.enter g args) w) (h : SA w a l) (hlen : l.length ≤ 1000000000) (hc : TestAt encPaper g lb c l w) :
    Calls Tryz.prog 75 #[.slice a l.length cap, .func (.func g) #[] lb] w (fun e w' => ∃ r : Int, e = .returned (.int .i64 r) ∧ decide (0 ≤ r) = l.any c ∧ Below w.heap.size w w' ∧ r = idxI c l) := by
  have HC := Lib.hid hc
  clear hc
  go_enter Tryz.func75, Tryz.ntmps75
  go_wp2_with fail
  go_loopg [8] l.length (fun gk i wr => ∃ k : Nat, i = .int .i64 k ∧ k ≤ l.length ∧ Hid (gk = l.length - k) ∧ Hid (∀ x ∈ l.take k, c x = false) ∧ Below w.heap.size w wr)
  case atStart => exact ⟨0, rfl, by omega, rfl, fun x hx => (by cases hx), Below.refl _ _⟩
  case round =>
    obtain ⟨k, rfl, hk, hgk, hf, hb⟩ := hrel
    by_cases hlt : k < l.length
    · obtain ⟨b, off, ha, c0, c1, c2, c3, c4⟩ := (h.below hb).paper hlt
      have HCx := Lib.hid (HC.out l[k] (List.getElem_mem hlt) wr hb)
      have Hat := Lib.hid (any_at (c := c) hlt)
      have Htk := Lib.hid (List.take_succ_eq_append_getElem hlt)
      have Hix := Lib.hid (fun h => idxI_at (c := c) hlt h hf.out)
      have Ha := Lib.hid ha
      rw [ha]
      clear ha
      generalize l[k] = x at *
      obtain ⟨x1, x2, x3, x4, x5, x6, x7, x8, x9⟩ := x
      (try simp only at *)
      have hk1 : (0 : Int) ≤ (k : Int) := by omega
      have hk2 : (k : Int) < (l.length : Int) := by omega
      obtain ⟨cx, hcx⟩ : ∃ cx, c ⟨x1, x2, x3, x4, x5, x6, x7, x8, x9⟩ = cx := ⟨_, rfl⟩
      rw [hcx] at HCx Hat Hix
      have Hcx := Lib.hid hcx
      clear hcx
      go_wp2_with fail
      refine HCx.out.mono ?_
      rintro e w1 ⟨rfl, hb1⟩
      have hb1' := below_next hb hb1
      cases cx
      · go_wp2_with fail
        rw [← Ha.out]
        go_roundg (l.length - (k + 1))
        case measure => have := hgk.out; omega
        case rel => exact ⟨k + 1, by go_num, by omega, rfl, by rw [Htk.out]; exact fun x hx => (List.mem_append.1 hx).elim (hf.out x) (fun h => by rw [List.mem_singleton.1 h]; exact Hcx.out), hb1'⟩
      · have Hany := Lib.hid (Hat.out rfl)
        have Hr := Lib.hid (Hix.out rfl)
        go_wp2_with fail
        go_ret
        exact ⟨_, rfl, by rw [Hany.out]; exact decide_eq_true hk1, hb1', Hr.out.symm⟩
    · obtain rfl : k = l.length := by omega
      have Hany := Lib.hid (any_none hf.out)
      have Hr := Lib.hid (idxI_none hf.out)
      go_wp2_with fail
      go_ret
      exact ⟨_, rfl, by rw [Hany.out]; rfl, hb, Hr.out.symm⟩
set_option maxHeartbeats 4000000 in
theorem findPaper_any (l : List Paper) (a : Option Addr) (cap g : Nat) (lb : Array Value) (c : Paper → Bool) (w : World) (eg : ∀ args w, (callFunc g args).run Tryz.prog w = .ok (.enter g args) w) (h : SA w a l) (hlen : l.length ≤ 1000000000) (hc : TestAt encPaper g lb c l w) :
    Calls Tryz.prog 69 #[.slice a l.length cap, .func (.func g) #[] lb] w (Gives (.bool (l.any c)) w) := by
  have HI := Lib.hid (indexPaper_any l a cap g lb c w eg h hlen hc)
  clear hc
  go_enter Tryz.func69, Tryz.ntmps69
  go_wp2_with fail
  refine HI.out.mono ?_
  rintro e w1 ⟨r, rfl, hr, hb, hri⟩
  clear hri
  go_wp2_with fail
  go_ret
  exact ⟨by rw [← hr] <;> rfl, hb⟩
set_option maxRecDepth 100000 in
set_option maxHeartbeats 4000000 in
theorem indexReader_any (l : List Reader) (a : Option Addr) (cap g : Nat) (lb : Array Value) (c : Reader → Bool) (w : World) (eg : ∀ args w, (callFunc g args).run Tryz.prog w = .ok (.enter g args) w) (h : SA w a l) (hlen : l.length ≤ 1000000000) (hc : TestAt encReader g lb c l w) :
    Calls Tryz.prog 110 #[.slice a l.length cap, .func (.func g) #[] lb] w (fun e w' => ∃ r : Int, e = .returned (.int .i64 r) ∧ decide (0 ≤ r) = l.any c ∧ Below w.heap.size w w' ∧ r = idxI c l) := by
  have HC := Lib.hid hc
  clear hc
  go_enter Tryz.func110, Tryz.ntmps110
  go_wp2_with fail
  go_loopg [8] l.length (fun gk i wr => ∃ k : Nat, i = .int .i64 k ∧ k ≤ l.length ∧ Hid (gk = l.length - k) ∧ Hid (∀ x ∈ l.take k, c x = false) ∧ Below w.heap.size w wr)
  case atStart => exact ⟨0, rfl, by omega, rfl, fun x hx => (by cases hx), Below.refl _ _⟩
  case round =>
    obtain ⟨k, rfl, hk, hgk, hf, hb⟩ := hrel
    by_cases hlt : k < l.length
    · obtain ⟨b, off, ha, c0, c1⟩ := (h.below hb).reader hlt
      have HCx := Lib.hid (HC.out l[k] (List.getElem_mem hlt) wr hb)
      have Hat := Lib.hid (any_at (c := c) hlt)
      have Htk := Lib.hid (List.take_succ_eq_append_getElem hlt)
      have Hix := Lib.hid (fun h => idxI_at (c := c) hlt h hf.out)
      have Ha := Lib.hid ha
      rw [ha]
      clear ha
      generalize l[k] = x at *
      obtain ⟨x1, x2, x3, x4⟩ := x
      (try simp only at *)
      have hk1 : (0 : Int) ≤ (k : Int) := by omega
      have hk2 : (k : Int) < (l.length : Int) := by omega
      obtain ⟨cx, hcx⟩ : ∃ cx, c ⟨x1, x2, x3, x4⟩ = cx := ⟨_, rfl⟩
      rw [hcx] at HCx Hat Hix
      have Hcx := Lib.hid hcx
      clear hcx
      go_wp2_with fail
      refine HCx.out.mono ?_
      rintro e w1 ⟨rfl, hb1⟩
      have hb1' := below_next hb hb1
      cases cx
      · go_wp2_with fail
        rw [← Ha.out]
        go_roundg (l.length - (k + 1))
        case measure => have := hgk.out; omega
        case rel => exact ⟨k + 1, by go_num, by omega, rfl, by rw [Htk.out]; exact fun x hx => (List.mem_append.1 hx).elim (hf.out x) (fun h => by rw [List.mem_singleton.1 h]; exact Hcx.out), hb1'⟩
      · have Hany := Lib.hid (Hat.out rfl)
        have Hr := Lib.hid (Hix.out rfl)
        go_wp2_with fail
        go_ret
        exact ⟨_, rfl, by rw [Hany.out]; exact decide_eq_true hk1, hb1', Hr.out.symm⟩
    · obtain rfl : k = l.length := by omega
      have Hany := Lib.hid (any_none hf.out)
      have Hr := Lib.hid (idxI_none hf.out)
      go_wp2_with fail
      go_ret
      exact ⟨_, rfl, by rw [Hany.out]; rfl, hb, Hr.out.symm⟩
set_option maxHeartbeats 4000000 in
theorem findReader_any (l : List Reader) (a : Option Addr) (cap g : Nat) (lb : Array Value) (c : Reader → Bool) (w : World) (eg : ∀ args w, (callFunc g args).run Tryz.prog w = .ok (.enter g args) w) (h : SA w a l) (hlen : l.length ≤ 1000000000) (hc : TestAt encReader g lb c l w) :
    Calls Tryz.prog 71 #[.slice a l.length cap, .func (.func g) #[] lb] w (Gives (.bool (l.any c)) w) := by
  have HI := Lib.hid (indexReader_any l a cap g lb c w eg h hlen hc)
  clear hc
  go_enter Tryz.func71, Tryz.ntmps71
  go_wp2_with fail
  refine HI.out.mono ?_
  rintro e w1 ⟨r, rfl, hr, hb, hri⟩
  clear hri
  go_wp2_with fail
  go_ret
  exact ⟨by rw [← hr] <;> rfl, hb⟩
end Go.Proofs.YtpgofjjcmldhpaaGreatDoor

/-! Papers, readers and bids together: BidsAllFault of the reference. -/
namespace Go.Proofs.YtpgofjjcmldhpaaGreatDoor
open Go.RowKit
set_option linter.unusedVariables false
set_option linter.unusedSimpArgs false

/-- Keys that rise are in order. -/
theorem rise_ord {ks : List ByteArray} (h : riseFault ks = 0) {k : Nat} (hk : k < ks.length) : ordB ks k = false := by
  have h1 := firstErr_all h k hk
  unfold riseE at h1
  rw [List.getElem?_eq_getElem hk] at h1
  simp only at h1
  cases ho : ordB ks k
  · rfl
  · rw [ho] at h1
    exfalso
    split at h1
    · exact absurd h1 (by decide)
    · exact absurd h1 (by decide)
theorem topics_rise {ps : List Paper} (h : papersFault ps = 0) {k : Nat} (hk : k < ps.length) : riseFault ps[k].topics = 0 := by
  unfold papersFault at h
  split at h
  · exact absurd h (by decide)
  have h1 := firstErr_all h k hk
  unfold papersE at h1
  rw [List.getElem?_eq_getElem hk] at h1
  simp only at h1
  have h2 : paperFault ps[k] = 0 := by
    apply Classical.byContradiction
    intro hn
    rw [if_pos hn] at h1
    exact hn h1
  unfold paperFault at h2
  repeat' split at h2
  all_goals first | exact h2 | exact absurd h2 (by decide) | (exfalso; contradiction)
def lackB (l : List Topic) (x : ByteArray) : Bool := !(ForestPure.topicOf l x).isSome
theorem wanted_rise {l : List Topic} {s : List ByteArray} (h : riseFault s = 0) : wantedFault l s = if 8 < s.length then 2 else if s.any (lackB l) = true then 8 else 0 := by
  unfold wantedFault
  by_cases h8 : 8 < s.length
  · rw [if_pos h8, if_pos h8]
  · rw [if_neg h8, if_neg h8]
    have hE : ∀ j (hj : j < s.length), wantedE l s j = if lackB l s[j] = true then 8 else 0 := fun j hj => by
      unfold wantedE lackB
      rw [List.getElem?_eq_getElem hj]
      simp only [rise_ord h hj]
      cases (ForestPure.topicOf l s[j]).isSome <;> simp
    by_cases ha : s.any (lackB l) = true
    · rw [if_pos ha]
      obtain ⟨x, hx, hl⟩ := List.any_eq_true.1 ha
      obtain ⟨i, hi, rfl⟩ := List.getElem_of_mem hx
      rw [← firstErr_same (g := wantedE l s) (f := fun j => if h : j < s.length then wantedE l s j else 0) (fun k hk _ => by simp [hk])]
      refine firstErr_const 8 (by decide) (fun j => ?_) ⟨i, hi, by simp [hi, hE i hi, hl]⟩
      by_cases hj : j < s.length
      · simp only [hj, dif_pos, hE j hj]
        cases lackB l s[j] <;> simp
      · exact .inl (by simp [hj])
    · rw [if_neg ha]
      refine firstErr_zero (fun j hj => ?_)
      rw [hE j hj, if_neg]
      intro hl
      exact ha (any_at hj hl)
theorem toList_beq (a b : ByteArray) : (a.toList == b.toList) = decide (a = b) := by
  rw [Bool.eq_iff_iff, beq_iff_eq, toList_inj, decide_eq_true_eq]

set_option maxHeartbeats 1000000 in
theorem allClo1_any (l : List Topic) (al : Option Addr) (capl bq : Nat) (x : ByteArray) (w : World) (hc : w.cell? ⟨bq, 0, none⟩ = some (.slice al l.length capl)) (hl : SA w al l) (hlen : l.length ≤ 1000000) :
    Calls Tryz.prog 67 #[.string x, .pointer (some ⟨bq, 0, none⟩)] w (Gives (.bool (lackB l x)) w) := by
  have HT := Lib.hid (hasTopic_any l al capl x w hl hlen)
  unfold lackB
  generalize (ForestPure.topicOf l x).isSome = q at *
  go_enter Tryz.func67, Tryz.ntmps67
  go_wp2_with fail
  refine HT.out.mono ?_
  rintro e w1 ⟨rfl, hb1⟩
  go_wp2_with fail
  go_ret
  exact ⟨rfl, hb1⟩
set_option maxHeartbeats 1000000 in
theorem allClo2_any (p : Paper) (bq : Nat) (x : ByteArray) (w : World) (hc : w.cell? ⟨bq, 0, none⟩ = some (.string x)) :
    Calls Tryz.prog 70 #[encPaper p, .pointer (some ⟨bq, 0, none⟩)] w (Gives (.bool (decide (p.id = x))) w) := by
  obtain ⟨x1, x2, x3, x4, x5, x6, x7, x8, x9⟩ := p
  unfold encPaper
  simp only
  have hlt := cell_lt hc
  go_enter Tryz.func70, Tryz.ntmps70
  go_wp2_with fail
  go_ret
  exact ⟨by simp [toList_beq], by (repeat' (first | exact Below.refl _ _ | assumption | refine Below.setCell ?_ ?_ _ | refine below_drewN ?_ _ | refine Below.drew ?_ | refine Below.alloc ?_ ?_ _ | (with_reducible refine Below.trans ?_ (Below.mono hb ?_)) | (with_reducible refine Below.trans ?_ (Below.mono hb0 ?_)) | (with_reducible refine Below.trans ?_ (Below.mono hb1 ?_)) | (with_reducible refine Below.trans ?_ (Below.mono hb2 ?_)) | (with_reducible refine Below.trans ?_ (Below.mono hb3 ?_)) | (with_reducible refine Below.trans ?_ (Below.mono hb4 ?_)) | (with_reducible refine Below.trans ?_ (Below.mono hb5 ?_)) | (with_reducible refine Below.trans ?_ (Below.mono hb6 ?_)) | (with_reducible refine Below.trans ?_ (Below.mono hb7 ?_)) | (with_reducible refine Below.trans ?_ (Below.mono hb8 ?_)) | (with_reducible refine Below.trans ?_ (Below.mono hb9 ?_)) | (with_reducible refine Below.trans ?_ (Below.mono hb10 ?_)) | (with_reducible refine Below.trans ?_ (Below.mono hb11 ?_)) | (with_reducible refine Below.trans ?_ (Below.mono hb12 ?_)) | (with_reducible refine Below.trans ?_ (Below.mono hb13 ?_)) | (with_reducible refine Below.trans ?_ (Below.mono hb14 ?_)) | (with_reducible refine Below.trans ?_ (Below.mono hb15 ?_)) | omega | (simp; done) | (simp; omega)))⟩
set_option maxHeartbeats 1000000 in
theorem allClo3_any (p : Reader) (bq : Nat) (x : ByteArray) (w : World) (hc : w.cell? ⟨bq, 1, none⟩ = some (.string x)) :
    Calls Tryz.prog 72 #[encReader p, .pointer (some ⟨bq, 0, none⟩)] w (Gives (.bool (decide (p.key = x))) w) := by
  obtain ⟨x1, x2, x3, x4⟩ := p
  unfold encReader
  simp only
  have hlt := cell_lt hc
  go_enter Tryz.func72, Tryz.ntmps72
  go_wp2_with fail
  go_ret
  exact ⟨by simp [toList_beq], by (repeat' (first | exact Below.refl _ _ | assumption | refine Below.setCell ?_ ?_ _ | refine below_drewN ?_ _ | refine Below.drew ?_ | refine Below.alloc ?_ ?_ _ | (with_reducible refine Below.trans ?_ (Below.mono hb ?_)) | (with_reducible refine Below.trans ?_ (Below.mono hb0 ?_)) | (with_reducible refine Below.trans ?_ (Below.mono hb1 ?_)) | (with_reducible refine Below.trans ?_ (Below.mono hb2 ?_)) | (with_reducible refine Below.trans ?_ (Below.mono hb3 ?_)) | (with_reducible refine Below.trans ?_ (Below.mono hb4 ?_)) | (with_reducible refine Below.trans ?_ (Below.mono hb5 ?_)) | (with_reducible refine Below.trans ?_ (Below.mono hb6 ?_)) | (with_reducible refine Below.trans ?_ (Below.mono hb7 ?_)) | (with_reducible refine Below.trans ?_ (Below.mono hb8 ?_)) | (with_reducible refine Below.trans ?_ (Below.mono hb9 ?_)) | (with_reducible refine Below.trans ?_ (Below.mono hb10 ?_)) | (with_reducible refine Below.trans ?_ (Below.mono hb11 ?_)) | (with_reducible refine Below.trans ?_ (Below.mono hb12 ?_)) | (with_reducible refine Below.trans ?_ (Below.mono hb13 ?_)) | (with_reducible refine Below.trans ?_ (Below.mono hb14 ?_)) | (with_reducible refine Below.trans ?_ (Below.mono hb15 ?_)) | omega | (simp; done) | (simp; omega)))⟩
set_option maxRecDepth 100000 in
set_option maxHeartbeats 8000000 in
theorem bidsAll_any (l : List Topic) (al : Option Addr) (capl : Nat) (ps : List Paper) (pa : Option Addr) (pc : Nat) (rs : List Reader) (ra : Option Addr) (rc : Nat) (bs : List Mark) (ba : Option Addr) (bc : Nat) (w : World) (hE0 : Env w) (hl : SA w al l) (hP : PapersAt w pa ps) (hR : ReadersAt w ra rs) (hB : SA w ba bs)
    (hlen : l.length ≤ 1000000) (hpl : ps.length ≤ 1000) (hsm : ∀ p ∈ ps, PSmall p) (hrl : rs.length ≤ 1000) (hrm : ∀ r ∈ rs, RSmall r) (hbl : bs.length ≤ 1000000) (hbm : ∀ x ∈ bs, x.1.size ≤ 1000 ∧ x.2.1.size ≤ 1000) :
    Calls Tryz.prog 20 #[.slice al l.length capl, .slice pa ps.length pc, .slice ra rs.length rc, .slice ba bs.length bc] w (Gives (.int .i64 (fieldX l ps rs bs)) w) := by
  have HPF := Lib.hid (fun W (hE : Env W) (h : PapersAt W pa ps) => papersFault_any ps pa pc W hE h (by omega) hsm)
  have HX1 : Hid (papersFault ps ≠ 0 → fieldX l ps rs bs = papersFault ps) := fun h => by unfold fieldX; rw [if_pos h]
  have HX2 : Hid (papersFault ps = 0 → firstErr (wantE l ps) ps.length ≠ 0 → fieldX l ps rs bs = firstErr (wantE l ps) ps.length) := fun h g => by unfold fieldX; rw [if_neg (by simpa using h), if_pos g]
  have HX3 : Hid (papersFault ps = 0 → firstErr (wantE l ps) ps.length = 0 → (if readersFault l rs ≠ 0 then readersFault l rs else bidsFault bs) ≠ 0 → fieldX l ps rs bs = if readersFault l rs ≠ 0 then readersFault l rs else bidsFault bs) := fun h g k => by
    unfold fieldX; rw [if_neg (by simpa using h), if_neg (by simpa using g)]
    by_cases hr : readersFault l rs ≠ 0
    · rw [if_pos hr, if_pos hr]
    · rw [if_neg hr] at k
      rw [if_neg hr, if_neg hr, if_pos k]
  have HX5 : Hid (papersFault ps = 0 → firstErr (wantE l ps) ps.length = 0 → ¬ (if readersFault l rs ≠ 0 then readersFault l rs else bidsFault bs) ≠ 0 → fieldX l ps rs bs = if bs.all (knownB ps rs) = true then 0 else 8) := fun h g k => by
    unfold fieldX; rw [if_neg (by simpa using h), if_neg (by simpa using g)]
    by_cases hr : readersFault l rs ≠ 0
    · rw [if_pos hr] at k; exact absurd hr k
    · rw [if_neg hr] at k
      rw [if_neg hr, if_neg k]
  have HTR : Hid (papersFault ps = 0 → ∀ k (hk : k < ps.length), wantE l ps k = if 8 < ps[k].topics.length then 2 else if ps[k].topics.any (lackB l) = true then 8 else 0) := fun h k hk => by
    rw [← wanted_rise (topics_rise h hk)]
    unfold wantE
    rw [List.getElem?_eq_getElem hk]
  generalize fieldX l ps rs bs = er at *
  generalize papersFault ps = pf at *
  go_enter Tryz.func20, Tryz.ntmps20
  have hb1 : Below w.heap.size w (w.alloc (.cells #[.slice al l.length capl] 26)) := by (repeat' (first | exact Below.refl _ _ | assumption | refine Below.setCell ?_ ?_ _ | refine below_drewN ?_ _ | refine Below.drew ?_ | refine Below.alloc ?_ ?_ _ | (with_reducible refine Below.trans ?_ (Below.mono hb ?_)) | (with_reducible refine Below.trans ?_ (Below.mono hb0 ?_)) | (with_reducible refine Below.trans ?_ (Below.mono hb1 ?_)) | (with_reducible refine Below.trans ?_ (Below.mono hb2 ?_)) | (with_reducible refine Below.trans ?_ (Below.mono hb3 ?_)) | (with_reducible refine Below.trans ?_ (Below.mono hb4 ?_)) | (with_reducible refine Below.trans ?_ (Below.mono hb5 ?_)) | (with_reducible refine Below.trans ?_ (Below.mono hb6 ?_)) | (with_reducible refine Below.trans ?_ (Below.mono hb7 ?_)) | (with_reducible refine Below.trans ?_ (Below.mono hb8 ?_)) | (with_reducible refine Below.trans ?_ (Below.mono hb9 ?_)) | (with_reducible refine Below.trans ?_ (Below.mono hb10 ?_)) | (with_reducible refine Below.trans ?_ (Below.mono hb11 ?_)) | (with_reducible refine Below.trans ?_ (Below.mono hb12 ?_)) | (with_reducible refine Below.trans ?_ (Below.mono hb13 ?_)) | (with_reducible refine Below.trans ?_ (Below.mono hb14 ?_)) | (with_reducible refine Below.trans ?_ (Below.mono hb15 ?_)) | omega | (simp; done) | (simp; omega)))
  have hc1 := (Box.new w 26 #[.slice al l.length capl])
  have hl1 := hl.below hb1
  have hP1 := hP.below hb1
  have hR1 := hR.below hb1
  have hB1 := hB.below hb1
  have hE1 := hE0.below hb1
  have hz1 : w.heap.size < (w.alloc (.cells #[.slice al l.length capl] 26)).heap.size := by simp
  clear hl hP hR hB hE0
  go_wp2_with fail
  refine (HPF.out _ hE1 hP1).mono ?_
  rintro e w2 ⟨rfl, hb2⟩
  have Hb1 := Lib.hid hb1
  clear hE1 hb1
  by_cases h0 : pf = 0
  · subst h0
    replace HX2 := Lib.hid (HX2.out rfl)
    replace HX3 := Lib.hid (HX3.out rfl)
    replace HX5 := Lib.hid (HX5.out rfl)
    replace HTR := Lib.hid (HTR.out rfl)
    clear HX1 HPF
    go_wp2_with fail
    generalize w.alloc (.cells #[.slice al l.length capl] 26) = W0 at *
    go_loopg [22] ps.length (fun gk i wr => ∃ k : Nat, i = .int .i64 k ∧ k ≤ ps.length ∧ Hid (gk = ps.length - k) ∧ Hid (∀ j, j < k → wantE l ps j = 0) ∧ Below W0.heap.size W0 wr)
    case atStart => exact ⟨0, rfl, by omega, rfl, fun j hj => absurd hj (by omega), hb2⟩
    clear hb2
    obtain ⟨k, rfl, hk, hgk, hf, hb⟩ := hrel
    have hzr := hb.size
    by_cases hlt : k < ps.length
    · obtain ⟨pb, poff, ha, c0, c1, c2, c3, c4⟩ := (hP1.below hb).1.paper hlt
      have hrd := hP1.2 ps[k] (List.getElem_mem hlt)
      have hx := hsm ps[k] (List.getElem_mem hlt)
      have HWE := Lib.hid (HTR.out k hlt)
      have Hfe := Lib.hid (fun (e : Int) he he0 => firstErr_is (f := wantE l ps) (e := e) hlt hf.out he he0)
      have Ha := Lib.hid ha
      rw [ha]
      clear ha
      generalize ps[k] = p at *
      obtain ⟨x1, x2, x3, au, tt, a1, n1, a2, n2⟩ := p
      obtain ⟨hr1, hr2, hr3⟩ := hrd
      obtain ⟨_, _, _, hx4, hx5, _, hx7⟩ := hx
      simp only at c0 c1 c2 c3 c4 hr1 hr2 hr3 hx4 hx5 hx7 HWE
      have hB := Box.new wr 86 #[.string x1, .string x2, .string x3, .slice a1 au.length n1, .slice a2 tt.length n2]
      have hba : Below W0.heap.size W0 (wr.alloc (.cells #[.string x1, .string x2, .string x3, .slice a1 au.length n1, .slice a2 tt.length n2] 86)) := by (repeat' (first | exact Below.refl _ _ | assumption | refine Below.setCell ?_ ?_ _ | refine below_drewN ?_ _ | refine Below.drew ?_ | refine Below.alloc ?_ ?_ _ | (with_reducible refine Below.trans ?_ (Below.mono hb ?_)) | (with_reducible refine Below.trans ?_ (Below.mono hb0 ?_)) | (with_reducible refine Below.trans ?_ (Below.mono hb1 ?_)) | (with_reducible refine Below.trans ?_ (Below.mono hb2 ?_)) | (with_reducible refine Below.trans ?_ (Below.mono hb3 ?_)) | (with_reducible refine Below.trans ?_ (Below.mono hb4 ?_)) | (with_reducible refine Below.trans ?_ (Below.mono hb5 ?_)) | (with_reducible refine Below.trans ?_ (Below.mono hb6 ?_)) | (with_reducible refine Below.trans ?_ (Below.mono hb7 ?_)) | (with_reducible refine Below.trans ?_ (Below.mono hb8 ?_)) | (with_reducible refine Below.trans ?_ (Below.mono hb9 ?_)) | (with_reducible refine Below.trans ?_ (Below.mono hb10 ?_)) | (with_reducible refine Below.trans ?_ (Below.mono hb11 ?_)) | (with_reducible refine Below.trans ?_ (Below.mono hb12 ?_)) | (with_reducible refine Below.trans ?_ (Below.mono hb13 ?_)) | (with_reducible refine Below.trans ?_ (Below.mono hb14 ?_)) | (with_reducible refine Below.trans ?_ (Below.mono hb15 ?_)) | omega | (simp; done) | (simp; omega)))
      have hsA := hr2.below hba
      have hzb := hba.size
      by_cases h8 : 8 < tt.length
      · have h8' : (8 : Int) < (tt.length : Int) := by omega
        have HWE2 := Lib.hid (HWE.out.trans (if_pos h8))
        have He := Lib.hid (Hfe.out _ HWE2.out (by decide))
        have HEr := Lib.hid ((HX2.out (by rw [He.out]; decide)).trans He.out)
        clear h8
        go_wp2_with fail
        exact bodyPost_ret (v := .int .i64 2) (by simp only [results, Tryz.results20]; go_simp) rfl ⟨by first | rfl | rw [HEr.out], below_next Hb1.out hba⟩
      · have h8' : ¬ (8 : Int) < (tt.length : Int) := by omega
        have HWE2 := Lib.hid (HWE.out.trans (if_neg h8))
        clear h8
        have HF := Lib.hid (findStr_any tt a2 n2 67 #[.pointer (some ⟨w.heap.size, 0, none⟩)] (lackB l) _ (enters_of Tryz.func67 (by kernel_rfl) rfl) hsA (by omega) (fun x hx W' hb' => allClo1_any l al capl w.heap.size x W' ((hc1.below (below_next hba hb')).cell 0) (hl1.below (below_next hba hb')) hlen))
        generalize tt.any (lackB l) = q at *
        go_wp2_with fail
        refine HF.out.mono ?_
        rintro e w5 ⟨rfl, hb5⟩
        have hb5' := below_next hba hb5
        cases q
        · have HZ := Lib.hid (HWE2.out.trans (if_neg (by decide)))
          go_wp2_with fail
          rw [← Ha.out]
          go_roundg (ps.length - (k + 1))
          case measure => have := hgk.out; omega
          case rel => exact ⟨k + 1, by go_num, by omega, rfl, zeros_succ hf.out HZ.out, hb5'⟩
        · have He := Lib.hid (Hfe.out 8 (HWE2.out.trans (if_pos rfl)) (by decide))
          have HEr := Lib.hid ((HX2.out (by rw [He.out]; decide)).trans He.out)
          go_wp2_with fail
          exact bodyPost_ret (v := .int .i64 8) (by simp only [results, Tryz.results20]; go_simp) rfl ⟨by first | rfl | rw [HEr.out], below_next Hb1.out hb5'⟩
    · obtain rfl : k = ps.length := by omega
      have hfe := firstErr_zero hf.out
      replace HX3 := Lib.hid (HX3.out hfe)
      replace HX5 := Lib.hid (HX5.out hfe)
      clear HX2 HTR hfe hf hgk hlt hk
      have hl2 := hl1.below hb
      have hc2 := hc1.below hb
      have hc20 := hc2.cell 0
      have HRF := Lib.hid (readersFaultR_any l al capl rs ra rc wr hl2 (hR1.below hb) hlen (by omega) hrm)
      generalize readersFault l rs = rf at *
      go_wp2_with fail
      refine HRF.out.mono ?_
      rintro e w5 ⟨rfl, hb5⟩
      have hb15 := below_next hb hb5
      have HBF := Lib.hid (bidsFaultR_any bs ba bc w5 (hB1.below hb15) hbl hbm)
      generalize bidsFault bs = bf at *
      go_wp2_with fail
      refine HBF.out.mono ?_
      rintro e w6 ⟨rfl, hb6⟩
      have hb16 := below_next hb15 hb6
      have hz6 := hb16.size
      clear hb hb5 hb15 hb6 HRF HBF hl2 hc2 hc20
      go_wp2_with fail
      refine (cmpOr2_any rf bf _ _ (Box.new _ _ _)).mono ?_
      rintro e w9 ⟨rfl, rfl⟩
      have hb17 : Below W0.heap.size W0 (w6.alloc (.cells #[.int .i64 rf, .int .i64 bf] 40)) := by (repeat' (first | exact Below.refl _ _ | assumption | refine Below.setCell ?_ ?_ _ | refine below_drewN ?_ _ | refine Below.drew ?_ | refine Below.alloc ?_ ?_ _ | (with_reducible refine Below.trans ?_ (Below.mono hb ?_)) | (with_reducible refine Below.trans ?_ (Below.mono hb0 ?_)) | (with_reducible refine Below.trans ?_ (Below.mono hb1 ?_)) | (with_reducible refine Below.trans ?_ (Below.mono hb2 ?_)) | (with_reducible refine Below.trans ?_ (Below.mono hb3 ?_)) | (with_reducible refine Below.trans ?_ (Below.mono hb4 ?_)) | (with_reducible refine Below.trans ?_ (Below.mono hb5 ?_)) | (with_reducible refine Below.trans ?_ (Below.mono hb6 ?_)) | (with_reducible refine Below.trans ?_ (Below.mono hb7 ?_)) | (with_reducible refine Below.trans ?_ (Below.mono hb8 ?_)) | (with_reducible refine Below.trans ?_ (Below.mono hb9 ?_)) | (with_reducible refine Below.trans ?_ (Below.mono hb10 ?_)) | (with_reducible refine Below.trans ?_ (Below.mono hb11 ?_)) | (with_reducible refine Below.trans ?_ (Below.mono hb12 ?_)) | (with_reducible refine Below.trans ?_ (Below.mono hb13 ?_)) | (with_reducible refine Below.trans ?_ (Below.mono hb14 ?_)) | (with_reducible refine Below.trans ?_ (Below.mono hb15 ?_)) | omega | (simp; done) | (simp; omega)))
      generalize w6.alloc (.cells #[.int .i64 rf, .int .i64 bf] 40) = W7 at *
      generalize (if rf ≠ 0 then rf else bf) = cf at *
      clear hb16
      by_cases hcf : cf = 0
      · subst hcf
        replace HX5 := Lib.hid (HX5.out (by simp))
        clear HX3
        go_wp2_with fail
        go_loopg [47] bs.length (fun gk i wr => ∃ k : Nat, i = .int .i64 k ∧ k ≤ bs.length ∧ Hid (gk = bs.length - k) ∧ Hid (∀ x ∈ bs.take k, knownB ps rs x = true) ∧ Below W0.heap.size W0 wr)
        case atStart => exact ⟨0, rfl, by omega, rfl, fun x hx => (by cases hx), hb17⟩
        clear hb17
        obtain ⟨k, rfl, hk, hgk, hf, hb⟩ := hrel
        have hzr := hb.size
        by_cases hlt : k < bs.length
        · obtain ⟨pb, poff, ha, c0, c1, c2⟩ := (hB1.below hb).mark hlt
          have Htk := Lib.hid (List.take_succ_eq_append_getElem hlt)
          have Hmem := Lib.hid (List.getElem_mem hlt)
          have Ha := Lib.hid ha
          rw [ha]
          clear ha
          generalize bs[k] = p at *
          obtain ⟨x1, x2, x3⟩ := p
          simp only at c0 c1 c2 Htk
          have hB := Box.new wr 96 #[.string x1, .string x2, .int .i64 x3]
          have hba : Below W0.heap.size W0 (wr.alloc (.cells #[.string x1, .string x2, .int .i64 x3] 96)) := by (repeat' (first | exact Below.refl _ _ | assumption | refine Below.setCell ?_ ?_ _ | refine below_drewN ?_ _ | refine Below.drew ?_ | refine Below.alloc ?_ ?_ _ | (with_reducible refine Below.trans ?_ (Below.mono hb ?_)) | (with_reducible refine Below.trans ?_ (Below.mono hb0 ?_)) | (with_reducible refine Below.trans ?_ (Below.mono hb1 ?_)) | (with_reducible refine Below.trans ?_ (Below.mono hb2 ?_)) | (with_reducible refine Below.trans ?_ (Below.mono hb3 ?_)) | (with_reducible refine Below.trans ?_ (Below.mono hb4 ?_)) | (with_reducible refine Below.trans ?_ (Below.mono hb5 ?_)) | (with_reducible refine Below.trans ?_ (Below.mono hb6 ?_)) | (with_reducible refine Below.trans ?_ (Below.mono hb7 ?_)) | (with_reducible refine Below.trans ?_ (Below.mono hb8 ?_)) | (with_reducible refine Below.trans ?_ (Below.mono hb9 ?_)) | (with_reducible refine Below.trans ?_ (Below.mono hb10 ?_)) | (with_reducible refine Below.trans ?_ (Below.mono hb11 ?_)) | (with_reducible refine Below.trans ?_ (Below.mono hb12 ?_)) | (with_reducible refine Below.trans ?_ (Below.mono hb13 ?_)) | (with_reducible refine Below.trans ?_ (Below.mono hb14 ?_)) | (with_reducible refine Below.trans ?_ (Below.mono hb15 ?_)) | omega | (simp; done) | (simp; omega)))
          have hP2 := hP1.below hba
          have HF2 := Lib.hid (findPaper_any ps pa pc 70 #[.pointer (some ⟨wr.heap.size, 0, none⟩)] (fun p => decide (p.id = x1)) _ (enters_of Tryz.func70 (by kernel_rfl) rfl) hP2.1 (by omega) (fun x hx W' hb' => allClo2_any x wr.heap.size x1 W' ((hB.below hb').cell 0)))
          have HF3 := Lib.hid (fun W3 (hW : Below (wr.alloc (.cells #[.string x1, .string x2, .int .i64 x3] 96)).heap.size (wr.alloc (.cells #[.string x1, .string x2, .int .i64 x3] 96)) W3) => findReader_any rs ra rc 72 #[.pointer (some ⟨wr.heap.size, 0, none⟩)] (fun p => decide (p.key = x2)) W3 (enters_of Tryz.func72 (by kernel_rfl) rfl) ((hR1.below (below_next hba hW)).1) (by omega) (fun x hx W' hb' => allClo3_any x wr.heap.size x2 W' ((hB.below (below_next hW hb')).cell 1)))
          have HKB : Hid (knownB ps rs (x1, x2, x3) = (ps.any (fun p => decide (p.id = x1)) && rs.any (fun p => decide (p.key = x2)))) := rfl
          have HBad := Lib.hid (fun (h : knownB ps rs (x1, x2, x3) = false) => HX5.out.trans (if_neg (fun h2 => by have := List.all_eq_true.1 h2 _ Hmem.out; rw [h] at this; cases this)))
          generalize ps.any (fun p => decide (p.id = x1)) = q1 at *
          generalize rs.any (fun p => decide (p.key = x2)) = q2 at *
          clear hP2
          go_wp2_with fail
          refine HF2.out.mono ?_
          rintro e w3 ⟨rfl, hb3⟩
          have hb13 := below_next hba hb3
          cases q1
          · have HEr := Lib.hid (HBad.out (by rw [HKB.out]; rfl))
            go_wp2_with fail
            exact bodyPost_ret (v := .int .i64 8) (by simp only [results, Tryz.results20]; go_simp) rfl ⟨by first | rfl | rw [HEr.out], below_next Hb1.out hb13⟩
          · go_wp2_with fail
            refine (HF3.out _ hb3).mono ?_
            rintro e w4 ⟨rfl, hb4⟩
            have hb14 := below_next hb13 hb4
            cases q2
            · have HEr := Lib.hid (HBad.out (by rw [HKB.out]; rfl))
              go_wp2_with fail
              exact bodyPost_ret (v := .int .i64 8) (by simp only [results, Tryz.results20]; go_simp) rfl ⟨by first | rfl | rw [HEr.out], below_next Hb1.out hb14⟩
            · have HKn := Lib.hid (show knownB ps rs (x1, x2, x3) = true by rw [HKB.out]; rfl)
              go_wp2_with fail
              rw [← Ha.out]
              go_roundg (bs.length - (k + 1))
              case measure => have := hgk.out; omega
              case rel => exact ⟨k + 1, by go_num, by omega, rfl, by rw [Htk.out]; exact fun x hx => (List.mem_append.1 hx).elim (hf.out x) (fun h => by rw [List.mem_singleton.1 h]; exact HKn.out), hb14⟩
        · obtain rfl : k = bs.length := by omega
          rw [List.take_length] at hf
          have HEr := Lib.hid (HX5.out.trans (if_pos (List.all_eq_true.2 hf.out)))
          go_wp2_with fail
          exact bodyPost_ret (v := .int .i64 0) (by simp only [results, Tryz.results20]; go_simp) rfl ⟨by first | rfl | rw [HEr.out], below_next Hb1.out hb⟩
      · have hq : (cf != 0) = true := by simpa using hcf
        have HEr := Lib.hid (HX3.out hcf)
        clear hcf HX5 HX3
        go_wp2_with fail
        exact bodyPost_ret (v := .int .i64 cf) (by simp only [results, Tryz.results20]; go_simp) rfl ⟨by first | rfl | rw [HEr.out], below_next Hb1.out hb17⟩
  · have hq : (pf != 0) = true := by simpa using h0
    have HEr := Lib.hid (HX1.out h0)
    clear h0 HX1 HX2 HX3 HX5 HTR
    go_wp2_with fail
    exact bodyPost_ret (v := .int .i64 pf) (by simp only [results, Tryz.results20]; go_simp) rfl ⟨by first | rfl | rw [HEr.out], below_next Hb1.out hb2⟩
end Go.Proofs.YtpgofjjcmldhpaaGreatDoor
