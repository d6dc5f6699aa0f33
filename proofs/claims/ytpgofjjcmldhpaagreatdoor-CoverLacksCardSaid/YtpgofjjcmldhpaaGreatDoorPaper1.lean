/- Papers: how they lie in memory; what is wrong with one. -/
import Derived.Test.YtpgofjjcmldhpaaGreatDoorText1
import Derived.Test.YtpgofjjcmldhpaaGreatDoorList
/-! Papers: how they lie in memory; what is wrong with one. -/
namespace Go.Proofs.YtpgofjjcmldhpaaGreatDoor
open Go.RowKit
set_option linter.unusedVariables false
set_option linter.unusedSimpArgs false

/-- A paper, and where its lists lie. -/
structure Paper where
  id : ByteArray
  track : ByteArray
  title : ByteArray
  authors : List ByteArray
  topics : List ByteArray
  a1 : Option Addr
  c1 : Nat
  a2 : Option Addr
  c2 : Nat
instance : Cel Paper := ⟨5, fun p => [.string p.id, .string p.track, .string p.title, .slice p.a1 p.authors.length p.c1, .slice p.a2 p.topics.length p.c2], fun _ => rfl, by decide, by simp [Value.oneCell']⟩
def Paper.agg (p : Paper) : Value := .agg #[.string p.id, .string p.track, .string p.title, .slice p.a1 p.authors.length p.c1, .slice p.a2 p.topics.length p.c2]
def Paper.cells (p : Paper) : Array Value := #[.string p.id, .string p.track, .string p.title, .slice p.a1 p.authors.length p.c1, .slice p.a2 p.topics.length p.c2]
/-- Its lists are there. -/
def PRd (w : World) (p : Paper) : Prop := SA w p.a1 p.authors ∧ SA w p.a2 p.topics ∧ p.authors.length ≤ p.c1
theorem PRd.below {w w' : World} {p : Paper} (h : PRd w p) (hb : Below w.heap.size w w') : PRd w' p := ⟨h.1.below hb, h.2.1.below hb, h.2.2⟩
/-- Sizes. -/
def PSmall (p : Paper) : Prop := p.id.size ≤ 1000 ∧ p.track.size ≤ 1000 ∧ p.title.size ≤ 1000 ∧ p.authors.length ≤ 1000 ∧ p.topics.length ≤ 1000 ∧ (∀ x ∈ p.authors, x.size ≤ 1000) ∧ ∀ x ∈ p.topics, x.size ≤ 1000

/-- The first error of keys that must rise. -/
def riseE (ks : List ByteArray) (i : Nat) : Int :=
  match ks[i]? with
  | none => 0
  | some x => if keyB x = false then 5 else if ordB ks i then 7 else 0
def riseFault (ks : List ByteArray) : Int := firstErr (riseE ks) ks.length
def authE (ks : List ByteArray) (i : Nat) : Int :=
  match ks[i]? with
  | none => 0
  | some x => if keyB x = false then 5 else if (ks.take i).any (fun y => decide (y = x)) then 6 else 0
def paperFault (p : Paper) : Int :=
  if (keyB p.id && keyB p.track) = false then 5
  else if 200 < p.title.size then 2
  else if (decide (p.title.size ≠ 0) && plainB p.title) = false then 3
  else if p.authors.length = 0 then 8
  else if 20 < p.authors.length then 2
  else if firstErr (authE p.authors) p.authors.length ≠ 0 then firstErr (authE p.authors) p.authors.length
  else if 100 < p.topics.length then 2
  else riseFault p.topics
def papersE (ps : List Paper) (i : Nat) : Int :=
  match ps[i]? with
  | none => 0
  | some p => if paperFault p ≠ 0 then paperFault p else if ordB (ps.map (·.id)) i then 7 else 0
def papersFault (ps : List Paper) : Int := if 400 < ps.length then 2 else firstErr (papersE ps) ps.length
end Go.Proofs.YtpgofjjcmldhpaaGreatDoor

/-! What is wrong with papers: CheckPaper, CheckPapers; PaperFault, PapersFault. -/
namespace Go.Proofs.YtpgofjjcmldhpaaGreatDoor
open Go.RowKit
set_option linter.unusedVariables false
set_option linter.unusedSimpArgs false

theorem isKey_gives (s : ByteArray) (w : World) (hs : s.size ≤ 9223372036854775807) : Calls Tryz.prog 54 #[.string s] w (Gives (.bool (keyB s)) w) :=
  (isKey_any s w hs).mono fun e w' ⟨h1, h2⟩ => ⟨h1, by subst h2; exact Below.refl _ _⟩

set_option maxRecDepth 100000 in
set_option maxHeartbeats 4000000 in
theorem risingFault_any (s : List ByteArray) (a : Option Addr) (cap : Nat) (w : World) (hs : SA w a s) (hsl : s.length ≤ 1000000) (hsm : ∀ x ∈ s, x.size ≤ 1000) :
    Calls Tryz.prog 165 #[.slice a s.length cap] w (Gives (.int .i64 (riseFault s)) w) := by
  unfold riseFault
  have HK := Lib.hid isKey_gives
  go_enter Tryz.func165, Tryz.ntmps165
  go_wp2_with fail
  go_loopg [7] s.length (fun gk i wr => ∃ k : Nat, i = .int .i64 k ∧ k ≤ s.length ∧ Hid (gk = s.length - k) ∧ Hid (∀ j, j < k → riseE s j = 0) ∧ Below w.heap.size w wr)
  case atStart => exact ⟨0, rfl, by omega, rfl, fun j hj => by omega, Below.refl _ _⟩
  case round =>
    obtain ⟨k, rfl, hk, hgk, hf, hb⟩ := hrel
    by_cases hlt : k < s.length
    · obtain ⟨b, off, ha, c0⟩ := (hs.below hb).str hlt
      have hE : riseE s k = if keyB s[k] = false then 5 else if ordB s k then 7 else 0 := by
        unfold riseE; rw [List.getElem?_eq_getElem hlt]
      have HE := Lib.hid hE
      have hxs := hsm s[k] (List.getElem_mem hlt)
      clear hE
      rw [ha]
      generalize hx : s[k] = x1 at *
      have Hx := Lib.hid hx
      clear hx
      have hz := hb.size
      have Hfe := Lib.hid (fun (e : Int) he he0 => firstErr_is (f := riseE s) (e := e) hlt hf.out he he0)
      go_wp2_with fail
      refine (HK.out x1 _ (by omega)).mono ?_
      rintro e w1 ⟨rfl, hb1⟩
      have hb1' : Below w.heap.size w w1 := below_next hb hb1
      cases hh : keyB x1
      · rw [hh] at HE
        have He := Lib.hid (Hfe.out 5 (by rw [HE.out]; rfl) (by decide))
        go_wp2_with fail
        go_ret
        exact ⟨by rw [He.out]; rfl, hb1'⟩
      · rw [hh] at HE
        go_upto_region 6 with (fail)
        go_cut [25] (fun v wx => v = .bool (ordB s k) ∧ ∃ n, wx = w1.drewN n)
        case first =>
          by_cases hk0 : k = 0
          · have hd : decide (0 < k) = false := by simp [hk0]
            have hd' : decide ((0 : Int) < (k : Int)) = false := by simp [hk0]
            have ho0 : ordB s k = false := by rw [hk0]; rfl
            have Ho := Lib.hid ho0
            clear hk0 ho0
            go_wp2_with fail
            skip
            go_meet
            exact ⟨by rw [Ho.out] <;> rfl, 0, rfl⟩
          · obtain ⟨p, hp⟩ : ∃ p, k = p + 1 := ⟨k - 1, by omega⟩
            have hpl : p < s.length := by omega
            obtain ⟨b', off', ha', d0⟩ := (hs.below hb1').str hpl; generalize hy : s[p] = y at *; have Hy := Lib.hid hy; clear hy
            rw [ha] at ha'
            cases ha'
            have Ho := Lib.hid (ordB_at (ks := s) (k := k) (p := p) (x := x1) (y := y) hp (by have := Hx.out; simp [List.getElem?_eq_getElem hlt, this]) (by have := Hy.out; simp [List.getElem?_eq_getElem hpl, this]))
            have hwp : IntKind.i64.wrap ((k : Int) - 1) = (p : Int) := by rw [hp, IntWalk.i64_in _ (by omega)]; omega
            have hk1 : 0 < k := by omega
            have hk2 : (0 : Int) < (k : Int) := by omega
            have hp1 : (0 : Int) ≤ (p : Int) := by omega
            have hp2 : (p : Int) < (s.length : Int) := by omega
            have hp3 : (k : Int) - 1 = (p : Int) := by omega
            have Hp := Lib.hid hp
            clear hp hk0
            go_wp2_with fail
            skip
            go_meet
            exact ⟨by rw [Ho.out] <;> rfl, 0, rfl⟩
        case rest =>
          obtain ⟨hso, n, rfl⟩ := hcut
          rw [hso]
          cases hob : ordB s k
          · rw [hob] at HE
            go_wp2_with fail
            rw [← ha]
            go_roundg (s.length - (k + 1))
            case measure => have := hgk.out; omega
            case rel => exact ⟨k + 1, by go_num, by omega, rfl, zeros_succ hf.out (by rw [HE.out]; rfl), below_drewN hb1' _⟩
          · rw [hob] at HE
            have He := Lib.hid (Hfe.out 7 (by rw [HE.out]; rfl) (by decide))
            go_wp2_with fail
            go_ret
            exact ⟨by rw [He.out]; rfl, below_drewN hb1' _⟩
    · have hE0 : firstErr (riseE s) s.length = 0 := by
        obtain rfl : k = s.length := by omega
        exact firstErr_zero hf.out
      have HE0 := Lib.hid hE0
      clear hE0
      go_wp2_with fail
      go_ret
      exact ⟨by rw [HE0.out]; rfl, hb⟩
set_option maxRecDepth 100000 in
set_option maxHeartbeats 4000000 in
theorem risingKeys_any (s : List ByteArray) (a : Option Addr) (cap : Nat) (w : World) (hs : SA w a s) (hsl : s.length ≤ 1000000) (hsm : ∀ x ∈ s, x.size ≤ 1000) :
    Calls Tryz.prog 138 #[.slice a s.length cap] w (Gives (.int .i64 (riseFault s)) w) := by
  unfold riseFault
  have HK := Lib.hid keyOf_any
  go_enter Tryz.func138, Tryz.ntmps138
  go_wp2_with fail
  go_loopg [7] s.length (fun gk i wr => ∃ k : Nat, i = .int .i64 k ∧ k ≤ s.length ∧ Hid (gk = s.length - k) ∧ Hid (∀ j, j < k → riseE s j = 0) ∧ Below w.heap.size w wr)
  case atStart => exact ⟨0, rfl, by omega, rfl, fun j hj => by omega, Below.refl _ _⟩
  case round =>
    obtain ⟨k, rfl, hk, hgk, hf, hb⟩ := hrel
    by_cases hlt : k < s.length
    · obtain ⟨b, off, ha, c0⟩ := (hs.below hb).str hlt
      have hE : riseE s k = if keyB s[k] = false then 5 else if ordB s k then 7 else 0 := by
        unfold riseE; rw [List.getElem?_eq_getElem hlt]
      have HE := Lib.hid hE
      have hxs := hsm s[k] (List.getElem_mem hlt)
      clear hE
      rw [ha]
      generalize hx : s[k] = x1 at *
      have Hx := Lib.hid hx
      clear hx
      have hz := hb.size
      have Hfe := Lib.hid (fun (e : Int) he he0 => firstErr_is (f := riseE s) (e := e) hlt hf.out he he0)
      go_wp2_with fail
      refine (HK.out x1 _ (by omega)).mono ?_
      rintro e w1 ⟨rfl, hb1⟩
      have hb1' : Below w.heap.size w w1 := below_next hb hb1
      cases hh : keyB x1
      · rw [hh] at HE
        have He := Lib.hid (Hfe.out 5 (by rw [HE.out]; rfl) (by decide))
        go_wp2_with fail
        go_ret
        exact ⟨by rw [He.out]; rfl, hb1'⟩
      · rw [hh] at HE
        go_upto_region 6 with (fail)
        go_cut [25] (fun v wx => v = .bool (ordB s k) ∧ ∃ n, wx = w1.drewN n)
        case first =>
          by_cases hk0 : k = 0
          · have hd : decide (0 < k) = false := by simp [hk0]
            have hd' : decide ((0 : Int) < (k : Int)) = false := by simp [hk0]
            have ho0 : ordB s k = false := by rw [hk0]; rfl
            have Ho := Lib.hid ho0
            clear hk0 ho0
            go_wp2_with fail
            skip
            go_meet
            exact ⟨by rw [Ho.out] <;> rfl, 0, rfl⟩
          · obtain ⟨p, hp⟩ : ∃ p, k = p + 1 := ⟨k - 1, by omega⟩
            have hpl : p < s.length := by omega
            obtain ⟨b', off', ha', d0⟩ := (hs.below hb1').str hpl; generalize hy : s[p] = y at *; have Hy := Lib.hid hy; clear hy
            rw [ha] at ha'
            cases ha'
            have Ho := Lib.hid (ordB_at (ks := s) (k := k) (p := p) (x := x1) (y := y) hp (by have := Hx.out; simp [List.getElem?_eq_getElem hlt, this]) (by have := Hy.out; simp [List.getElem?_eq_getElem hpl, this]))
            have hwp : IntKind.i64.wrap ((k : Int) - 1) = (p : Int) := by rw [hp, IntWalk.i64_in _ (by omega)]; omega
            have hk1 : 0 < k := by omega
            have hk2 : (0 : Int) < (k : Int) := by omega
            have hp1 : (0 : Int) ≤ (p : Int) := by omega
            have hp2 : (p : Int) < (s.length : Int) := by omega
            have hp3 : (k : Int) - 1 = (p : Int) := by omega
            have Hp := Lib.hid hp
            clear hp hk0
            go_wp2_with fail
            skip
            go_meet
            exact ⟨by rw [Ho.out] <;> rfl, 0, rfl⟩
        case rest =>
          obtain ⟨hso, n, rfl⟩ := hcut
          rw [hso]
          cases hob : ordB s k
          · rw [hob] at HE
            go_wp2_with fail
            rw [← ha]
            go_roundg (s.length - (k + 1))
            case measure => have := hgk.out; omega
            case rel => exact ⟨k + 1, by go_num, by omega, rfl, zeros_succ hf.out (by rw [HE.out]; rfl), below_drewN hb1' _⟩
          · rw [hob] at HE
            have He := Lib.hid (Hfe.out 7 (by rw [HE.out]; rfl) (by decide))
            go_wp2_with fail
            go_ret
            exact ⟨by rw [He.out]; rfl, below_drewN hb1' _⟩
    · have hE0 : firstErr (riseE s) s.length = 0 := by
        obtain rfl : k = s.length := by omega
        exact firstErr_zero hf.out
      have HE0 := Lib.hid hE0
      clear hE0
      go_wp2_with fail
      go_ret
      exact ⟨by rw [HE0.out]; rfl, hb⟩
theorem SA.take {α : Type} [Cel α] {w : World} {a : Option Addr} {l : List α} (h : SA w a l) (n : Nat) : SA w a (l.take n) := by
  rcases h with rfl | ⟨b, off, rfl, h⟩
  · exact .inl (by simp)
  · exact .inr ⟨b, off, rfl, h.take n⟩

set_option maxRecDepth 100000 in
set_option maxHeartbeats 4000000 in
theorem checkPaper_any (p : Paper) (w : World) (hE : Env w) (hp : PRd w p) (hsm : PSmall p) :
    Calls Tryz.prog 139 #[p.agg] w (Gives (.int .i64 (paperFault p)) w) := by
  obtain ⟨id, track, title, authors, topics, a1, c1, a2, c2⟩ := p
  obtain ⟨hs1, hs2, hs3, hn1, hn2, hsa, hst⟩ := hsm
  obtain ⟨hau, hto, hc1⟩ := hp
  simp only at hs1 hs2 hs3 hn1 hn2 hsa hst hau hto hc1
  unfold Paper.agg
  simp only
  have HPF := Lib.hid (show paperFault ⟨id, track, title, authors, topics, a1, c1, a2, c2⟩ = (if (keyB id && keyB track) = false then 5
    else if 200 < title.size then 2
    else if (decide (title.size ≠ 0) && plainB title) = false then 3
    else if authors.length = 0 then 8
    else if 20 < authors.length then 2
    else if firstErr (authE authors) authors.length ≠ 0 then firstErr (authE authors) authors.length
    else if 100 < topics.length then 2
    else riseFault topics) from rfl)
  generalize paperFault ⟨id, track, title, authors, topics, a1, c1, a2, c2⟩ = pf at *
  have HK := Lib.hid isKey_gives
  have HPl := Lib.hid (fun w h => isPlain_any title w h (by omega))
  have HR := Lib.hid (fun w h => risingFault_any topics a2 c2 w h (by omega) hst)
  have hbx := Box.new w 86 #[.string id, .string track, .string title, .slice a1 authors.length c1, .slice a2 topics.length c2]
  go_enter Tryz.func139, Tryz.ntmps139
  go_wp2_with fail
  refine (HK.out id _ (by omega)).mono ?_
  rintro e w1 ⟨rfl, hb1⟩
  have hz1 := hb1.size
  simp at hz1
  have hbx1 := hbx.below hb1
  have hb1' : Below w.heap.size w w1 := by (repeat' (first | exact Below.refl _ _ | assumption | refine Below.setCell ?_ ?_ _ | refine below_drewN ?_ _ | refine Below.drew ?_ | refine Below.alloc ?_ ?_ _ | (with_reducible refine Below.trans ?_ (Below.mono hb ?_)) | (with_reducible refine Below.trans ?_ (Below.mono hb0 ?_)) | (with_reducible refine Below.trans ?_ (Below.mono hb1 ?_)) | (with_reducible refine Below.trans ?_ (Below.mono hb2 ?_)) | (with_reducible refine Below.trans ?_ (Below.mono hb3 ?_)) | (with_reducible refine Below.trans ?_ (Below.mono hb4 ?_)) | (with_reducible refine Below.trans ?_ (Below.mono hb5 ?_)) | (with_reducible refine Below.trans ?_ (Below.mono hb6 ?_)) | (with_reducible refine Below.trans ?_ (Below.mono hb7 ?_)) | (with_reducible refine Below.trans ?_ (Below.mono hb8 ?_)) | (with_reducible refine Below.trans ?_ (Below.mono hb9 ?_)) | (with_reducible refine Below.trans ?_ (Below.mono hb10 ?_)) | (with_reducible refine Below.trans ?_ (Below.mono hb11 ?_)) | (with_reducible refine Below.trans ?_ (Below.mono hb12 ?_)) | (with_reducible refine Below.trans ?_ (Below.mono hb13 ?_)) | (with_reducible refine Below.trans ?_ (Below.mono hb14 ?_)) | (with_reducible refine Below.trans ?_ (Below.mono hb15 ?_)) | omega | (simp; done) | (simp; omega)))
  clear hbx hb1
  cases h1 : keyB id
  · have Hv := Lib.hid (show pf = 5 by rw [HPF.out, h1]; rfl)
    go_wp2_with fail
    go_ret
    exact ⟨by rw [Hv.out]; rfl, hb1'⟩
  rw [h1] at HPF
  have hbx1_l := hbx1.lt; have hbx1_0 := hbx1.cell 0; have hbx1_1 := hbx1.cell 1; have hbx1_2 := hbx1.cell 2; have hbx1_3 := hbx1.cell 3; have hbx1_4 := hbx1.cell 4; simp at hbx1_0 hbx1_1 hbx1_2 hbx1_3 hbx1_4
  go_wp2_with fail
  refine (HK.out track _ (by omega)).mono ?_
  rintro e w2 ⟨rfl, hb2⟩
  have hz2 := hb2.size
  have hbx2 := hbx1.below hb2
  have hb2' := below_next hb1' hb2
  clear hbx1_l hbx1_0 hbx1_1 hbx1_2 hbx1_3 hbx1_4
  clear hbx1 hb2 hb1'
  cases h2 : keyB track
  · have Hv := Lib.hid (show pf = 5 by rw [HPF.out, h2]; rfl)
    go_wp2_with fail
    go_ret
    exact ⟨by rw [Hv.out]; rfl, hb2'⟩
  rw [h2, Bool.and_self, if_neg (by decide)] at HPF
  have hbx2_l := hbx2.lt; have hbx2_0 := hbx2.cell 0; have hbx2_1 := hbx2.cell 1; have hbx2_2 := hbx2.cell 2; have hbx2_3 := hbx2.cell 3; have hbx2_4 := hbx2.cell 4; simp at hbx2_0 hbx2_1 hbx2_2 hbx2_3 hbx2_4
  by_cases h3 : 200 < title.size
  · have Hv := Lib.hid (show pf = 2 by rw [HPF.out, if_pos h3])
    go_wp2_with fail
    go_ret
    exact ⟨by rw [Hv.out]; rfl, hb2'⟩
  rw [if_neg h3] at HPF
  by_cases h4 : title.size = 0
  · have Hv := Lib.hid (show pf = 3 by rw [HPF.out, if_pos (by simp [h4])])
    have he1 : title.toList = [] := List.isEmpty_iff.1 (by rw [isEmpty_size, decide_eq_true h4])
    clear h4
    go_wp2_with fail
    go_ret
    exact ⟨by rw [Hv.out]; rfl, hb2'⟩
  have he2 : title.toList.isEmpty = false := by rw [isEmpty_size, decide_eq_false h4]
  have he1 : title.toList ≠ [] := fun h => by rw [h] at he2; cases he2
  rw [decide_eq_true (show title.size ≠ 0 from h4), Bool.true_and] at HPF
  go_wp2_with fail
  refine (HPl.out _ (hE.below hb2')).mono ?_
  rintro e w3 ⟨rfl, hb3⟩
  have hz3 := hb3.size
  have hbx3 := hbx2.below hb3
  have hb3' := below_next hb2' hb3
  clear hbx2_l hbx2_0 hbx2_1 hbx2_2 hbx2_3 hbx2_4
  clear hbx2 hb3 hb2' he1 he2
  cases h5 : plainB title
  · have Hv := Lib.hid (show pf = 3 by rw [HPF.out, h5]; rfl)
    go_wp2_with fail
    go_ret
    exact ⟨by rw [Hv.out]; rfl, hb3'⟩
  rw [h5, if_neg (by decide)] at HPF
  have hbx3_l := hbx3.lt; have hbx3_0 := hbx3.cell 0; have hbx3_1 := hbx3.cell 1; have hbx3_2 := hbx3.cell 2; have hbx3_3 := hbx3.cell 3; have hbx3_4 := hbx3.cell 4; simp at hbx3_0 hbx3_1 hbx3_2 hbx3_3 hbx3_4
  by_cases h6 : authors.length = 0
  · have Hv := Lib.hid (show pf = 8 by rw [HPF.out, if_pos h6])
    have hq : ((authors.length : Int) == 0) = true := by simp [h6]
    have hq6 : (authors.length : Int) = 0 := by omega
    rw [h6] at hbx3_3
    clear h6 hq6 hq
    go_wp2_with fail
    go_ret
    exact ⟨by rw [Hv.out]; rfl, hb3'⟩
  rw [if_neg h6] at HPF
  have hq : ((authors.length : Int) == 0) = false := beq_eq_false_iff_ne.2 (by omega)
  have h6' : 0 < authors.length := by omega
  clear h6
  by_cases h7 : 20 < authors.length
  · have Hv := Lib.hid (show pf = 2 by rw [HPF.out, if_pos h7])
    go_wp2_with fail
    go_ret
    exact ⟨by rw [Hv.out]; rfl, hb3'⟩
  rw [if_neg h7] at HPF
  go_wp2_with fail
  clear hbx3_l hbx3_0 hbx3_1 hbx3_2 hbx3_3 hbx3_4
  go_loopg [44] authors.length (fun gk i wr => ∃ k : Nat, i = .int .i64 k ∧ k ≤ authors.length ∧ Hid (gk = authors.length - k) ∧ Hid (∀ j, j < k → authE authors j = 0) ∧ Box wr w.heap.size 86 #[.string id, .string track, .string title, .slice a1 authors.length c1, .slice a2 topics.length c2] ∧ Below w.heap.size w wr)
  case atStart => exact ⟨0, rfl, by omega, rfl, fun j hj => by omega, hbx3, hb3'⟩
  case round =>
    clear hbx3 hb3'
    obtain ⟨k, rfl, hk, hgk, hf, hbx, hb⟩ := hrel
    by_cases hlt : k < authors.length
    · obtain ⟨b, off, ha, c0⟩ := (hau.below hb).str hlt
      have hE5 : authE authors k = if keyB authors[k] = false then 5 else if (authors.take k).any (fun y => decide (y = authors[k])) then 6 else 0 := by
        unfold authE; rw [List.getElem?_eq_getElem hlt]
      have HE := Lib.hid hE5
      have hxs := hsa authors[k] (List.getElem_mem hlt)
      have Hfe := Lib.hid (fun (e : Int) (he : authE authors k = e) (he0 : e ≠ 0) => (show pf = e by rw [HPF.out, firstErr_is (f := authE authors) hlt hf.out he he0, if_pos he0]))
      have HC := Lib.hid (fun w h => contains_any (authors.take k) a1 c1 authors[k] w h (by rw [List.length_take]; omega))
      have hlk : (authors.take k).length = k := by rw [List.length_take]; omega
      rw [hlk] at HC
      clear hE5 hlk
      generalize (authors.take k).any (fun y => decide (y = authors[k])) = tw at *
      generalize authors[k] = x1 at *
      have htk := (hau.below hb).take k
      rw [ha] at HC htk hbx ⊢
      have hz := hb.size
      go_wp2_with fail
      refine (HK.out x1 _ (by omega)).mono ?_
      rintro e w4 ⟨rfl, hb4⟩
      have hb4' : Below w.heap.size w w4 := below_next hb hb4
      have hbx4 := hbx.below hb4
      cases hh : keyB x1
      · rw [hh] at HE
        have He := Lib.hid (Hfe.out 5 (by rw [HE.out]; rfl) (by decide))
        go_wp2_with fail
        go_ret
        exact ⟨by rw [He.out]; rfl, hb4'⟩
      · rw [hh] at HE
        have hbx4_l := hbx4.lt; have hbx4_0 := hbx4.cell 0; have hbx4_1 := hbx4.cell 1; have hbx4_2 := hbx4.cell 2; have hbx4_3 := hbx4.cell 3; have hbx4_4 := hbx4.cell 4; simp at hbx4_0 hbx4_1 hbx4_2 hbx4_3 hbx4_4
        go_wp2_with fail
        refine (HC.out _ (htk.below hb4)).mono ?_
        rintro e w5 ⟨rfl, rfl⟩
        cases tw
        · go_wp2_with fail
          rw [← ha]
          go_roundg (authors.length - (k + 1))
          case measure => have := hgk.out; omega
          case rel => exact ⟨k + 1, by go_num, by omega, rfl, zeros_succ hf.out (by rw [HE.out]; rfl), by rw [ha]; exact hbx4, hb4'⟩
        · have He := Lib.hid (Hfe.out 6 (by rw [HE.out]; rfl) (by decide))
          go_wp2_with fail
          go_ret
          exact ⟨by rw [He.out]; rfl, hb4'⟩
    · have hE0 : firstErr (authE authors) authors.length = 0 := by
        obtain rfl : k = authors.length := by omega
        exact firstErr_zero hf.out
      rw [hE0, if_neg (by simp)] at HPF
      clear hE0 hf
      have hbx_l := hbx.lt; have hbx_0 := hbx.cell 0; have hbx_1 := hbx.cell 1; have hbx_2 := hbx.cell 2; have hbx_3 := hbx.cell 3; have hbx_4 := hbx.cell 4; simp at hbx_0 hbx_1 hbx_2 hbx_3 hbx_4
      by_cases h8 : 100 < topics.length
      · have Hv := Lib.hid (show pf = 2 by rw [HPF.out, if_pos h8])
        go_wp2_with fail
        go_ret
        exact ⟨by rw [Hv.out]; rfl, hb⟩
      · rw [if_neg h8] at HPF
        go_wp2_with fail
        refine (HR.out _ (hto.below hb)).mono ?_
        rintro e w6 ⟨rfl, hb6⟩
        go_wp2_with fail
        go_ret
        exact ⟨by rw [HPF.out]; rfl, below_next hb hb6⟩
set_option maxRecDepth 100000 in
set_option maxHeartbeats 4000000 in
theorem paperFault_any (p : Paper) (w : World) (hE : Env w) (hp : PRd w p) (hsm : PSmall p) :
    Calls Tryz.prog 108 #[p.agg] w (Gives (.int .i64 (paperFault p)) w) := by
  obtain ⟨id, track, title, authors, topics, a1, c1, a2, c2⟩ := p
  obtain ⟨hs1, hs2, hs3, hn1, hn2, hsa, hst⟩ := hsm
  obtain ⟨hau, hto, hc1⟩ := hp
  simp only at hs1 hs2 hs3 hn1 hn2 hsa hst hau hto hc1
  unfold Paper.agg
  simp only
  have HPF := Lib.hid (show paperFault ⟨id, track, title, authors, topics, a1, c1, a2, c2⟩ = (if (keyB id && keyB track) = false then 5
    else if 200 < title.size then 2
    else if (decide (title.size ≠ 0) && plainB title) = false then 3
    else if authors.length = 0 then 8
    else if 20 < authors.length then 2
    else if firstErr (authE authors) authors.length ≠ 0 then firstErr (authE authors) authors.length
    else if 100 < topics.length then 2
    else riseFault topics) from rfl)
  generalize paperFault ⟨id, track, title, authors, topics, a1, c1, a2, c2⟩ = pf at *
  have HK := Lib.hid keyOf_any
  have HPl := Lib.hid (fun w h => plainOf_any title w h (by omega))
  have HR := Lib.hid (fun w h => risingKeys_any topics a2 c2 w h (by omega) hst)
  have hbx := Box.new w 86 #[.string id, .string track, .string title, .slice a1 authors.length c1, .slice a2 topics.length c2]
  go_enter Tryz.func108, Tryz.ntmps108
  go_wp2_with fail
  refine (HK.out id _ (by omega)).mono ?_
  rintro e w1 ⟨rfl, hb1⟩
  have hz1 := hb1.size
  simp at hz1
  have hbx1 := hbx.below hb1
  have hb1' : Below w.heap.size w w1 := by (repeat' (first | exact Below.refl _ _ | assumption | refine Below.setCell ?_ ?_ _ | refine below_drewN ?_ _ | refine Below.drew ?_ | refine Below.alloc ?_ ?_ _ | (with_reducible refine Below.trans ?_ (Below.mono hb ?_)) | (with_reducible refine Below.trans ?_ (Below.mono hb0 ?_)) | (with_reducible refine Below.trans ?_ (Below.mono hb1 ?_)) | (with_reducible refine Below.trans ?_ (Below.mono hb2 ?_)) | (with_reducible refine Below.trans ?_ (Below.mono hb3 ?_)) | (with_reducible refine Below.trans ?_ (Below.mono hb4 ?_)) | (with_reducible refine Below.trans ?_ (Below.mono hb5 ?_)) | (with_reducible refine Below.trans ?_ (Below.mono hb6 ?_)) | (with_reducible refine Below.trans ?_ (Below.mono hb7 ?_)) | (with_reducible refine Below.trans ?_ (Below.mono hb8 ?_)) | (with_reducible refine Below.trans ?_ (Below.mono hb9 ?_)) | (with_reducible refine Below.trans ?_ (Below.mono hb10 ?_)) | (with_reducible refine Below.trans ?_ (Below.mono hb11 ?_)) | (with_reducible refine Below.trans ?_ (Below.mono hb12 ?_)) | (with_reducible refine Below.trans ?_ (Below.mono hb13 ?_)) | (with_reducible refine Below.trans ?_ (Below.mono hb14 ?_)) | (with_reducible refine Below.trans ?_ (Below.mono hb15 ?_)) | omega | (simp; done) | (simp; omega)))
  clear hbx hb1
  cases h1 : keyB id
  · have Hv := Lib.hid (show pf = 5 by rw [HPF.out, h1]; rfl)
    go_wp2_with fail
    go_ret
    exact ⟨by rw [Hv.out]; rfl, hb1'⟩
  rw [h1] at HPF
  have hbx1_l := hbx1.lt; have hbx1_0 := hbx1.cell 0; have hbx1_1 := hbx1.cell 1; have hbx1_2 := hbx1.cell 2; have hbx1_3 := hbx1.cell 3; have hbx1_4 := hbx1.cell 4; simp at hbx1_0 hbx1_1 hbx1_2 hbx1_3 hbx1_4
  go_wp2_with fail
  refine (HK.out track _ (by omega)).mono ?_
  rintro e w2 ⟨rfl, hb2⟩
  have hz2 := hb2.size
  have hbx2 := hbx1.below hb2
  have hb2' := below_next hb1' hb2
  clear hbx1_l hbx1_0 hbx1_1 hbx1_2 hbx1_3 hbx1_4
  clear hbx1 hb2 hb1'
  cases h2 : keyB track
  · have Hv := Lib.hid (show pf = 5 by rw [HPF.out, h2]; rfl)
    go_wp2_with fail
    go_ret
    exact ⟨by rw [Hv.out]; rfl, hb2'⟩
  rw [h2, Bool.and_self, if_neg (by decide)] at HPF
  have hbx2_l := hbx2.lt; have hbx2_0 := hbx2.cell 0; have hbx2_1 := hbx2.cell 1; have hbx2_2 := hbx2.cell 2; have hbx2_3 := hbx2.cell 3; have hbx2_4 := hbx2.cell 4; simp at hbx2_0 hbx2_1 hbx2_2 hbx2_3 hbx2_4
  by_cases h3 : 200 < title.size
  · have Hv := Lib.hid (show pf = 2 by rw [HPF.out, if_pos h3])
    go_wp2_with fail
    go_ret
    exact ⟨by rw [Hv.out]; rfl, hb2'⟩
  rw [if_neg h3] at HPF
  by_cases h4 : title.size = 0
  · have Hv := Lib.hid (show pf = 3 by rw [HPF.out, if_pos (by simp [h4])])
    have he1 : title.toList = [] := List.isEmpty_iff.1 (by rw [isEmpty_size, decide_eq_true h4])
    clear h4
    go_wp2_with fail
    go_ret
    exact ⟨by rw [Hv.out]; rfl, hb2'⟩
  have he2 : title.toList.isEmpty = false := by rw [isEmpty_size, decide_eq_false h4]
  have he1 : title.toList ≠ [] := fun h => by rw [h] at he2; cases he2
  rw [decide_eq_true (show title.size ≠ 0 from h4), Bool.true_and] at HPF
  go_wp2_with fail
  refine (HPl.out _ (hE.below hb2')).mono ?_
  rintro e w3 ⟨rfl, hb3⟩
  have hz3 := hb3.size
  have hbx3 := hbx2.below hb3
  have hb3' := below_next hb2' hb3
  clear hbx2_l hbx2_0 hbx2_1 hbx2_2 hbx2_3 hbx2_4
  clear hbx2 hb3 hb2' he1 he2
  cases h5 : plainB title
  · have Hv := Lib.hid (show pf = 3 by rw [HPF.out, h5]; rfl)
    go_wp2_with fail
    go_ret
    exact ⟨by rw [Hv.out]; rfl, hb3'⟩
  rw [h5, if_neg (by decide)] at HPF
  have hbx3_l := hbx3.lt; have hbx3_0 := hbx3.cell 0; have hbx3_1 := hbx3.cell 1; have hbx3_2 := hbx3.cell 2; have hbx3_3 := hbx3.cell 3; have hbx3_4 := hbx3.cell 4; simp at hbx3_0 hbx3_1 hbx3_2 hbx3_3 hbx3_4
  by_cases h6 : authors.length = 0
  · have Hv := Lib.hid (show pf = 8 by rw [HPF.out, if_pos h6])
    have hq : ((authors.length : Int) == 0) = true := by simp [h6]
    have hq6 : (authors.length : Int) = 0 := by omega
    rw [h6] at hbx3_3
    clear h6 hq6 hq
    go_wp2_with fail
    go_ret
    exact ⟨by rw [Hv.out]; rfl, hb3'⟩
  rw [if_neg h6] at HPF
  have hq : ((authors.length : Int) == 0) = false := beq_eq_false_iff_ne.2 (by omega)
  have h6' : 0 < authors.length := by omega
  clear h6
  by_cases h7 : 20 < authors.length
  · have Hv := Lib.hid (show pf = 2 by rw [HPF.out, if_pos h7])
    go_wp2_with fail
    go_ret
    exact ⟨by rw [Hv.out]; rfl, hb3'⟩
  rw [if_neg h7] at HPF
  go_wp2_with fail
  clear hbx3_l hbx3_0 hbx3_1 hbx3_2 hbx3_3 hbx3_4
  go_loopg [44] authors.length (fun gk i wr => ∃ k : Nat, i = .int .i64 k ∧ k ≤ authors.length ∧ Hid (gk = authors.length - k) ∧ Hid (∀ j, j < k → authE authors j = 0) ∧ Box wr w.heap.size 86 #[.string id, .string track, .string title, .slice a1 authors.length c1, .slice a2 topics.length c2] ∧ Below w.heap.size w wr)
  case atStart => exact ⟨0, rfl, by omega, rfl, fun j hj => by omega, hbx3, hb3'⟩
  case round =>
    clear hbx3 hb3'
    obtain ⟨k, rfl, hk, hgk, hf, hbx, hb⟩ := hrel
    by_cases hlt : k < authors.length
    · obtain ⟨b, off, ha, c0⟩ := (hau.below hb).str hlt
      have hE5 : authE authors k = if keyB authors[k] = false then 5 else if (authors.take k).any (fun y => decide (y = authors[k])) then 6 else 0 := by
        unfold authE; rw [List.getElem?_eq_getElem hlt]
      have HE := Lib.hid hE5
      have hxs := hsa authors[k] (List.getElem_mem hlt)
      have Hfe := Lib.hid (fun (e : Int) (he : authE authors k = e) (he0 : e ≠ 0) => (show pf = e by rw [HPF.out, firstErr_is (f := authE authors) hlt hf.out he he0, if_pos he0]))
      have HC := Lib.hid (fun w h => contains_any (authors.take k) a1 c1 authors[k] w h (by rw [List.length_take]; omega))
      have hlk : (authors.take k).length = k := by rw [List.length_take]; omega
      rw [hlk] at HC
      clear hE5 hlk
      generalize (authors.take k).any (fun y => decide (y = authors[k])) = tw at *
      generalize authors[k] = x1 at *
      have htk := (hau.below hb).take k
      rw [ha] at HC htk hbx ⊢
      have hz := hb.size
      go_wp2_with fail
      refine (HK.out x1 _ (by omega)).mono ?_
      rintro e w4 ⟨rfl, hb4⟩
      have hb4' : Below w.heap.size w w4 := below_next hb hb4
      have hbx4 := hbx.below hb4
      cases hh : keyB x1
      · rw [hh] at HE
        have He := Lib.hid (Hfe.out 5 (by rw [HE.out]; rfl) (by decide))
        go_wp2_with fail
        go_ret
        exact ⟨by rw [He.out]; rfl, hb4'⟩
      · rw [hh] at HE
        have hbx4_l := hbx4.lt; have hbx4_0 := hbx4.cell 0; have hbx4_1 := hbx4.cell 1; have hbx4_2 := hbx4.cell 2; have hbx4_3 := hbx4.cell 3; have hbx4_4 := hbx4.cell 4; simp at hbx4_0 hbx4_1 hbx4_2 hbx4_3 hbx4_4
        go_wp2_with fail
        refine (HC.out _ (htk.below hb4)).mono ?_
        rintro e w5 ⟨rfl, rfl⟩
        cases tw
        · go_wp2_with fail
          rw [← ha]
          go_roundg (authors.length - (k + 1))
          case measure => have := hgk.out; omega
          case rel => exact ⟨k + 1, by go_num, by omega, rfl, zeros_succ hf.out (by rw [HE.out]; rfl), by rw [ha]; exact hbx4, hb4'⟩
        · have He := Lib.hid (Hfe.out 6 (by rw [HE.out]; rfl) (by decide))
          go_wp2_with fail
          go_ret
          exact ⟨by rw [He.out]; rfl, hb4'⟩
    · have hE0 : firstErr (authE authors) authors.length = 0 := by
        obtain rfl : k = authors.length := by omega
        exact firstErr_zero hf.out
      rw [hE0, if_neg (by simp)] at HPF
      clear hE0 hf
      have hbx_l := hbx.lt; have hbx_0 := hbx.cell 0; have hbx_1 := hbx.cell 1; have hbx_2 := hbx.cell 2; have hbx_3 := hbx.cell 3; have hbx_4 := hbx.cell 4; simp at hbx_0 hbx_1 hbx_2 hbx_3 hbx_4
      by_cases h8 : 100 < topics.length
      · have Hv := Lib.hid (show pf = 2 by rw [HPF.out, if_pos h8])
        go_wp2_with fail
        go_ret
        exact ⟨by rw [Hv.out]; rfl, hb⟩
      · rw [if_neg h8] at HPF
        go_wp2_with fail
        refine (HR.out _ (hto.below hb)).mono ?_
        rintro e w6 ⟨rfl, hb6⟩
        go_wp2_with fail
        go_ret
        exact ⟨by rw [HPF.out]; rfl, below_next hb hb6⟩
end Go.Proofs.YtpgofjjcmldhpaaGreatDoor

/-! What is wrong with lists of papers: CheckPapers; PapersFault. -/
namespace Go.Proofs.YtpgofjjcmldhpaaGreatDoor
open Go.RowKit
set_option linter.unusedVariables false
set_option linter.unusedSimpArgs false

theorem SA.paper {w : World} {a : Option Addr} {l : List Paper} (h : SA w a l) {i : Nat} (hi : i < l.length) :
    ∃ b off, a = some ⟨b, off, none⟩ ∧ w.cell? ⟨b, off + i * 5, none⟩ = some (.string l[i].id) ∧ w.cell? ⟨b, off + i * 5 + 1, none⟩ = some (.string l[i].track) ∧ w.cell? ⟨b, off + i * 5 + 1 + 1, none⟩ = some (.string l[i].title) ∧ w.cell? ⟨b, off + i * 5 + 1 + 1 + 1, none⟩ = some (.slice l[i].a1 l[i].authors.length l[i].c1) ∧ w.cell? ⟨b, off + i * 5 + 1 + 1 + 1 + 1, none⟩ = some (.slice l[i].a2 l[i].topics.length l[i].c2) := by
  obtain ⟨b, off, ha, hc⟩ := h.at hi
  exact ⟨b, off, ha, hc 0 (by decide), hc 1 (by decide), hc 2 (by decide), hc 3 (by decide), hc 4 (by decide)⟩
/-- Papers in memory. -/
def PapersAt (w : World) (a : Option Addr) (ps : List Paper) : Prop := SA w a ps ∧ ∀ p ∈ ps, PRd w p
theorem PapersAt.below {w w' : World} {a : Option Addr} {ps : List Paper} (h : PapersAt w a ps) (hb : Below w.heap.size w w') : PapersAt w' a ps := ⟨h.1.below hb, fun p hp => (h.2 p hp).below hb⟩

set_option maxRecDepth 100000 in
set_option maxHeartbeats 4000000 in
theorem checkPapers_any (s : List Paper) (a : Option Addr) (cap : Nat) (w : World) (hE0 : Env w) (hs : PapersAt w a s) (hsl : s.length ≤ 1000000) (hsm : ∀ p ∈ s, PSmall p) :
    Calls Tryz.prog 111 #[.slice a s.length cap] w (Gives (.int .i64 (papersFault s)) w) := by
  by_cases h100 : 400 < s.length
  · have hv : papersFault s = 2 := by simp [papersFault, h100]
    rw [hv]
    go_enter Tryz.func111, Tryz.ntmps111
    go_wp2_with fail
    go_ret
    exact ⟨rfl, Below.refl _ _⟩
  · have hv : papersFault s = firstErr (papersE s) s.length := by simp [papersFault, h100]
    rw [hv]
    clear hv
    go_enter Tryz.func111, Tryz.ntmps111
    go_wp2_with fail
    go_loopg [11] s.length (fun gk i wr => ∃ k : Nat, i = .int .i64 k ∧ k ≤ s.length ∧ Hid (gk = s.length - k) ∧ Hid (∀ j, j < k → papersE s j = 0) ∧ Below w.heap.size w wr)
    case atStart => exact ⟨0, rfl, by omega, rfl, fun j hj => by omega, Below.refl _ _⟩
    case round =>
      obtain ⟨k, rfl, hk, hgk, hf, hb⟩ := hrel
      by_cases hlt : k < s.length
      · obtain ⟨b, off, ha, c0, c1, c2, c3, c4⟩ := (hs.below hb).1.paper hlt
        have hE : papersE s k = if paperFault s[k] ≠ 0 then paperFault s[k] else if ordB (s.map (·.id)) k then 7 else 0 := by
          unfold papersE; rw [List.getElem?_eq_getElem hlt]
        have HE := Lib.hid hE
        have hmem := List.getElem_mem hlt
        have HP := Lib.hid (fun (w : World) (he : Env w) (hp : PRd w s[k]) => checkPaper_any s[k] w he hp (hsm s[k] hmem))
        have hrd := (hs.below hb).2 s[k] hmem
        clear hE hmem
        unfold Paper.agg at HP
        rw [ha]
        generalize hx : s[k] = x at *
        generalize paperFault x = pf at *
        obtain ⟨x1, x2, x3, xau, xto, xa1, xc1, xa2, xc2⟩ := x
        have Hx : Hid (s[k].id = x1) := by rw [hx]; rfl
        clear hx
        simp only at c0 c1 c2 c3 c4 HP
        have hz := hb.size
        have Hfe := Lib.hid (fun (e : Int) he he0 => firstErr_is (f := papersE s) (e := e) hlt hf.out he he0)
        go_wp2_with fail
        refine (HP.out _ ((hE0.below hb).alloc _) (hrd.below ((Below.refl _ _).alloc (Nat.le_refl _) _))).mono ?_
        rintro e w1 ⟨rfl, hb1⟩
        have hz1 := hb1.size
        simp at hz1
        have hT := (Box.new wr 86 #[.string x1, .string x2, .string x3, .slice xa1 xau.length xc1, .slice xa2 xto.length xc2]).below hb1
        have hb1' : Below w.heap.size w w1 := by (repeat' (first | exact Below.refl _ _ | assumption | refine Below.setCell ?_ ?_ _ | refine below_drewN ?_ _ | refine Below.drew ?_ | refine Below.alloc ?_ ?_ _ | (with_reducible refine Below.trans ?_ (Below.mono hb ?_)) | (with_reducible refine Below.trans ?_ (Below.mono hb0 ?_)) | (with_reducible refine Below.trans ?_ (Below.mono hb1 ?_)) | (with_reducible refine Below.trans ?_ (Below.mono hb2 ?_)) | (with_reducible refine Below.trans ?_ (Below.mono hb3 ?_)) | (with_reducible refine Below.trans ?_ (Below.mono hb4 ?_)) | (with_reducible refine Below.trans ?_ (Below.mono hb5 ?_)) | (with_reducible refine Below.trans ?_ (Below.mono hb6 ?_)) | (with_reducible refine Below.trans ?_ (Below.mono hb7 ?_)) | (with_reducible refine Below.trans ?_ (Below.mono hb8 ?_)) | (with_reducible refine Below.trans ?_ (Below.mono hb9 ?_)) | (with_reducible refine Below.trans ?_ (Below.mono hb10 ?_)) | (with_reducible refine Below.trans ?_ (Below.mono hb11 ?_)) | (with_reducible refine Below.trans ?_ (Below.mono hb12 ?_)) | (with_reducible refine Below.trans ?_ (Below.mono hb13 ?_)) | (with_reducible refine Below.trans ?_ (Below.mono hb14 ?_)) | (with_reducible refine Below.trans ?_ (Below.mono hb15 ?_)) | omega | (simp; done) | (simp; omega)))
        clear hb1 hrd
        by_cases hpf : pf = 0
        · rw [if_neg (by simp [hpf])] at HE
          have hq : (pf != 0) = false := by simpa using hpf
          clear hpf
          have hT_l := hT.lt; have hT_0 := hT.cell 0; have hT_1 := hT.cell 1; have hT_2 := hT.cell 2; have hT_3 := hT.cell 3; have hT_4 := hT.cell 4; simp at hT_0 hT_1 hT_2 hT_3 hT_4
          go_upto_region 9 with (fail)
          go_cut [33] (fun v wx => v = .bool (ordB (s.map (·.id)) k) ∧ ∃ n, wx = w1.drewN n)
          case first =>
            by_cases hk0 : k = 0
            · have hd : decide (0 < k) = false := by simp [hk0]
              have hd' : decide ((0 : Int) < (k : Int)) = false := by simp [hk0]
              have ho0 : ordB (s.map (·.id)) k = false := by rw [hk0]; rfl
              have Ho := Lib.hid ho0
              clear hk0 ho0
              go_wp2_with fail
              go_quiet (fail); go_wp2_with fail
              go_meet
              exact ⟨by rw [Ho.out] <;> rfl, _, rfl⟩
            · obtain ⟨p, hp⟩ : ∃ p, k = p + 1 := ⟨k - 1, by omega⟩
              have hpl : p < s.length := by omega
              obtain ⟨b', off', ha', d0, d1, d2, d3, d4⟩ := (hs.below hb1').1.paper hpl; generalize hy : s[p].id = y at *; have Hy := Lib.hid hy; clear hy d1 d2 d3 d4
              rw [ha] at ha'
              cases ha'
              have Ho := Lib.hid (ordB_at (ks := (s.map (·.id))) (k := k) (p := p) (x := x1) (y := y) hp (by have := Hx.out; simp [List.getElem?_eq_getElem hlt, this]) (by have := Hy.out; simp [List.getElem?_eq_getElem hpl, this]))
              have hwp : IntKind.i64.wrap ((k : Int) - 1) = (p : Int) := by rw [hp, IntWalk.i64_in _ (by omega)]; omega
              have hk1 : 0 < k := by omega
              have hk2 : (0 : Int) < (k : Int) := by omega
              have hp1 : (0 : Int) ≤ (p : Int) := by omega
              have hp2 : (p : Int) < (s.length : Int) := by omega
              have hp3 : (k : Int) - 1 = (p : Int) := by omega
              have Hp := Lib.hid hp
              clear hp hk0
              go_wp2_with fail
              go_quiet (fail); go_wp2_with fail
              go_meet
              exact ⟨by rw [Ho.out] <;> rfl, _, rfl⟩
          case rest =>
            obtain ⟨hso, n, rfl⟩ := hcut
            rw [hso]
            cases hob : ordB (s.map (·.id)) k
            · rw [hob] at HE
              go_wp2_with fail
              rw [← ha]
              go_roundg (s.length - (k + 1))
              case measure => have := hgk.out; omega
              case rel => exact ⟨k + 1, by go_num, by omega, rfl, zeros_succ hf.out (by rw [HE.out]; rfl), below_drewN hb1' _⟩
            · rw [hob] at HE
              have He := Lib.hid (Hfe.out 7 (by rw [HE.out]; rfl) (by decide))
              go_wp2_with fail
              go_ret
              exact ⟨by rw [He.out]; rfl, below_drewN hb1' _⟩
        · rw [if_pos hpf] at HE
          have hq : (pf != 0) = true := by simpa using hpf
          have He := Lib.hid (Hfe.out pf HE.out hpf)
          clear hpf
          go_wp2_with fail
          go_ret
          exact ⟨by rw [He.out]; rfl, hb1'⟩
      · have hE1 : firstErr (papersE s) s.length = 0 := by
          obtain rfl : k = s.length := by omega
          exact firstErr_zero hf.out
        have HE1 := Lib.hid hE1
        clear hE1
        go_wp2_with fail
        go_ret
        exact ⟨by rw [HE1.out]; rfl, hb⟩
set_option maxRecDepth 100000 in
set_option maxHeartbeats 4000000 in
theorem papersFault_any (s : List Paper) (a : Option Addr) (cap : Nat) (w : World) (hE0 : Env w) (hs : PapersAt w a s) (hsl : s.length ≤ 1000000) (hsm : ∀ p ∈ s, PSmall p) :
    Calls Tryz.prog 65 #[.slice a s.length cap] w (Gives (.int .i64 (papersFault s)) w) := by
  by_cases h100 : 400 < s.length
  · have hv : papersFault s = 2 := by simp [papersFault, h100]
    rw [hv]
    go_enter Tryz.func65, Tryz.ntmps65
    go_wp2_with fail
    go_ret
    exact ⟨rfl, Below.refl _ _⟩
  · have hv : papersFault s = firstErr (papersE s) s.length := by simp [papersFault, h100]
    rw [hv]
    clear hv
    go_enter Tryz.func65, Tryz.ntmps65
    go_wp2_with fail
    go_loopg [11] s.length (fun gk i wr => ∃ k : Nat, i = .int .i64 k ∧ k ≤ s.length ∧ Hid (gk = s.length - k) ∧ Hid (∀ j, j < k → papersE s j = 0) ∧ Below w.heap.size w wr)
    case atStart => exact ⟨0, rfl, by omega, rfl, fun j hj => by omega, Below.refl _ _⟩
    case round =>
      obtain ⟨k, rfl, hk, hgk, hf, hb⟩ := hrel
      by_cases hlt : k < s.length
      · obtain ⟨b, off, ha, c0, c1, c2, c3, c4⟩ := (hs.below hb).1.paper hlt
        have hE : papersE s k = if paperFault s[k] ≠ 0 then paperFault s[k] else if ordB (s.map (·.id)) k then 7 else 0 := by
          unfold papersE; rw [List.getElem?_eq_getElem hlt]
        have HE := Lib.hid hE
        have hmem := List.getElem_mem hlt
        have HP := Lib.hid (fun (w : World) (he : Env w) (hp : PRd w s[k]) => paperFault_any s[k] w he hp (hsm s[k] hmem))
        have hrd := (hs.below hb).2 s[k] hmem
        clear hE hmem
        unfold Paper.agg at HP
        rw [ha]
        generalize hx : s[k] = x at *
        generalize paperFault x = pf at *
        obtain ⟨x1, x2, x3, xau, xto, xa1, xc1, xa2, xc2⟩ := x
        have Hx : Hid (s[k].id = x1) := by rw [hx]; rfl
        clear hx
        simp only at c0 c1 c2 c3 c4 HP
        have hz := hb.size
        have Hfe := Lib.hid (fun (e : Int) he he0 => firstErr_is (f := papersE s) (e := e) hlt hf.out he he0)
        go_wp2_with fail
        refine (HP.out _ ((hE0.below hb).alloc _) (hrd.below ((Below.refl _ _).alloc (Nat.le_refl _) _))).mono ?_
        rintro e w1 ⟨rfl, hb1⟩
        have hz1 := hb1.size
        simp at hz1
        have hT := (Box.new wr 86 #[.string x1, .string x2, .string x3, .slice xa1 xau.length xc1, .slice xa2 xto.length xc2]).below hb1
        have hb1' : Below w.heap.size w w1 := by (repeat' (first | exact Below.refl _ _ | assumption | refine Below.setCell ?_ ?_ _ | refine below_drewN ?_ _ | refine Below.drew ?_ | refine Below.alloc ?_ ?_ _ | (with_reducible refine Below.trans ?_ (Below.mono hb ?_)) | (with_reducible refine Below.trans ?_ (Below.mono hb0 ?_)) | (with_reducible refine Below.trans ?_ (Below.mono hb1 ?_)) | (with_reducible refine Below.trans ?_ (Below.mono hb2 ?_)) | (with_reducible refine Below.trans ?_ (Below.mono hb3 ?_)) | (with_reducible refine Below.trans ?_ (Below.mono hb4 ?_)) | (with_reducible refine Below.trans ?_ (Below.mono hb5 ?_)) | (with_reducible refine Below.trans ?_ (Below.mono hb6 ?_)) | (with_reducible refine Below.trans ?_ (Below.mono hb7 ?_)) | (with_reducible refine Below.trans ?_ (Below.mono hb8 ?_)) | (with_reducible refine Below.trans ?_ (Below.mono hb9 ?_)) | (with_reducible refine Below.trans ?_ (Below.mono hb10 ?_)) | (with_reducible refine Below.trans ?_ (Below.mono hb11 ?_)) | (with_reducible refine Below.trans ?_ (Below.mono hb12 ?_)) | (with_reducible refine Below.trans ?_ (Below.mono hb13 ?_)) | (with_reducible refine Below.trans ?_ (Below.mono hb14 ?_)) | (with_reducible refine Below.trans ?_ (Below.mono hb15 ?_)) | omega | (simp; done) | (simp; omega)))
        clear hb1 hrd
        by_cases hpf : pf = 0
        · rw [if_neg (by simp [hpf])] at HE
          have hq : (pf != 0) = false := by simpa using hpf
          clear hpf
          have hT_l := hT.lt; have hT_0 := hT.cell 0; have hT_1 := hT.cell 1; have hT_2 := hT.cell 2; have hT_3 := hT.cell 3; have hT_4 := hT.cell 4; simp at hT_0 hT_1 hT_2 hT_3 hT_4
          go_upto_region 9 with (fail)
          go_cut [33] (fun v wx => v = .bool (ordB (s.map (·.id)) k) ∧ ∃ n, wx = w1.drewN n)
          case first =>
            by_cases hk0 : k = 0
            · have hd : decide (0 < k) = false := by simp [hk0]
              have hd' : decide ((0 : Int) < (k : Int)) = false := by simp [hk0]
              have ho0 : ordB (s.map (·.id)) k = false := by rw [hk0]; rfl
              have Ho := Lib.hid ho0
              clear hk0 ho0
              go_wp2_with fail
              go_quiet (fail); go_wp2_with fail
              go_meet
              exact ⟨by rw [Ho.out] <;> rfl, _, rfl⟩
            · obtain ⟨p, hp⟩ : ∃ p, k = p + 1 := ⟨k - 1, by omega⟩
              have hpl : p < s.length := by omega
              obtain ⟨b', off', ha', d0, d1, d2, d3, d4⟩ := (hs.below hb1').1.paper hpl; generalize hy : s[p].id = y at *; have Hy := Lib.hid hy; clear hy d1 d2 d3 d4
              rw [ha] at ha'
              cases ha'
              have Ho := Lib.hid (ordB_at (ks := (s.map (·.id))) (k := k) (p := p) (x := x1) (y := y) hp (by have := Hx.out; simp [List.getElem?_eq_getElem hlt, this]) (by have := Hy.out; simp [List.getElem?_eq_getElem hpl, this]))
              have hwp : IntKind.i64.wrap ((k : Int) - 1) = (p : Int) := by rw [hp, IntWalk.i64_in _ (by omega)]; omega
              have hk1 : 0 < k := by omega
              have hk2 : (0 : Int) < (k : Int) := by omega
              have hp1 : (0 : Int) ≤ (p : Int) := by omega
              have hp2 : (p : Int) < (s.length : Int) := by omega
              have hp3 : (k : Int) - 1 = (p : Int) := by omega
              have Hp := Lib.hid hp
              clear hp hk0
              go_wp2_with fail
              go_quiet (fail); go_wp2_with fail
              go_meet
              exact ⟨by rw [Ho.out] <;> rfl, _, rfl⟩
          case rest =>
            obtain ⟨hso, n, rfl⟩ := hcut
            rw [hso]
            cases hob : ordB (s.map (·.id)) k
            · rw [hob] at HE
              go_wp2_with fail
              rw [← ha]
              go_roundg (s.length - (k + 1))
              case measure => have := hgk.out; omega
              case rel => exact ⟨k + 1, by go_num, by omega, rfl, zeros_succ hf.out (by rw [HE.out]; rfl), below_drewN hb1' _⟩
            · rw [hob] at HE
              have He := Lib.hid (Hfe.out 7 (by rw [HE.out]; rfl) (by decide))
              go_wp2_with fail
              go_ret
              exact ⟨by rw [He.out]; rfl, below_drewN hb1' _⟩
        · rw [if_pos hpf] at HE
          have hq : (pf != 0) = true := by simpa using hpf
          have He := Lib.hid (Hfe.out pf HE.out hpf)
          clear hpf
          go_wp2_with fail
          go_ret
          exact ⟨by rw [He.out]; rfl, hb1'⟩
      · have hE1 : firstErr (papersE s) s.length = 0 := by
          obtain rfl : k = s.length := by omega
          exact firstErr_zero hf.out
        have HE1 := Lib.hid hE1
        clear hE1
        go_wp2_with fail
        go_ret
        exact ⟨by rw [HE1.out]; rfl, hb⟩
end Go.Proofs.YtpgofjjcmldhpaaGreatDoor
