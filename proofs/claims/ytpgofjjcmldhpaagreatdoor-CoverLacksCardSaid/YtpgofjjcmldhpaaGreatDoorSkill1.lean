/- Skills and wanted topics: the errors, of the reference and of the program. -/
import Derived.Test.YtpgofjjcmldhpaaGreatDoorTopic4
import Derived.Test.YtpgofjjcmldhpaaGreatDoorFrac
namespace Go.Proofs.YtpgofjjcmldhpaaGreatDoor
open Go.RowKit
set_option linter.unusedVariables false




def skillE (l : List Topic) (s : List Skill) (i : Nat) : Int :=
  match s[i]? with
  | none => 0
  | some x => if (ForestPure.topicOf l x.1).isSome = false then 8 else if ordB (s.map (·.1)) i then 7 else if decide (x.2 < 1) || decide (100 < x.2) then 1 else 0
def skillsFault (l : List Topic) (s : List Skill) : Int := if 100 < s.length then 2 else firstErr (skillE l s) s.length
def wantedE (l : List Topic) (s : List ByteArray) (i : Nat) : Int :=
  match s[i]? with
  | none => 0
  | some x => if (ForestPure.topicOf l x).isSome = false then 8 else if ordB s i then 7 else 0
def wantedFault (l : List Topic) (s : List ByteArray) : Int := if 8 < s.length then 2 else firstErr (wantedE l s) s.length

theorem has_gives (l : List Topic) (b : Nat) (k : ByteArray) (w : World) (hF : FMap w b l l.length) :
    Calls Tryz.prog 136 #[.map (some b), .string k] w (Gives (.bool (ForestPure.topicOf l k).isSome) w) :=
  (has_any l b k w hF).mono fun e w' ⟨h1, h2⟩ => ⟨h1, by subst h2; exact Below.refl _ _⟩
theorem hasT_gives (l : List Topic) (a : Option Addr) (cap : Nat) (key : ByteArray) (hlen : l.length ≤ 1000000) (w : World) (hl : SA w a l) :
    Calls Tryz.prog 58 #[.slice a l.length cap, .string key] w (Gives (.bool (ForestPure.topicOf l key).isSome) w) := hasTopic_any l a cap key w hl hlen



set_option maxRecDepth 100000 in
set_option maxHeartbeats 4000000 in
theorem skillsFaultR_any (l : List Topic) (a : Option Addr) (cap : Nat) (s : List Skill) (a2 : Option Addr) (cap2 : Nat) (w : World) (hl : SA w a l) (hs : SA w a2 s) (hlen : l.length ≤ 1000000) (hsl : s.length ≤ 1000000) :
    Calls Tryz.prog 61 #[.slice a l.length cap, .slice a2 s.length cap2] w (Gives (.int .i64 (skillsFault l s)) w) := by
  have HH := Lib.hid (fun x => hasT_gives l a cap x hlen)
  by_cases h100 : 100 < s.length
  · have hv : skillsFault l s = 2 := by simp [skillsFault, h100]
    rw [hv]
    go_enter Tryz.func61, Tryz.ntmps61
    go_wp2_with fail
    go_ret
    exact ⟨rfl, Below.refl _ _⟩
  · have hv : skillsFault l s = firstErr (skillE l s) s.length := by simp [skillsFault, h100]
    rw [hv]
    clear hv
    go_enter Tryz.func61, Tryz.ntmps61
    go_wp2_with fail
    go_loopg [12] s.length (fun gk i wr => ∃ k : Nat, i = .int .i64 k ∧ k ≤ s.length ∧ Hid (gk = s.length - k) ∧ Hid (∀ j, j < k → skillE l s j = 0) ∧ Below w.heap.size w wr)
    case atStart => exact ⟨0, rfl, by omega, rfl, fun j hj => by omega, Below.refl _ _⟩
    case round =>
      obtain ⟨k, rfl, hk, hgk, hf, hb⟩ := hrel
      by_cases hlt : k < s.length
      · obtain ⟨b, off, ha, c0, c1⟩ := (hs.below hb).skill hlt
        have hE : skillE l s k = if (ForestPure.topicOf l s[k].1).isSome = false then 8 else if ordB (s.map (·.1)) k then 7 else if decide (s[k].2 < 1) || decide (100 < s[k].2) then 1 else 0 := by
          unfold skillE; rw [List.getElem?_eq_getElem hlt]
        have HE := Lib.hid hE
        clear hE
        rw [ha]
        generalize hx : s[k] = x at *
        obtain ⟨x1, x2⟩ := x
        have Hx := Lib.hid hx
        clear hx
        simp only at c0 c1 HE
        have hz := hb.size
        have Hfe := Lib.hid (fun (e : Int) he he0 => firstErr_is (f := skillE l s) (e := e) hlt hf.out he he0)
        go_wp2_with fail
        refine (HH.out x1 _ ((hl.below hb).alloc _)).mono ?_
        rintro e w1 ⟨rfl, hb1⟩
        have hz1 := hb1.size
        simp at hz1
        have hT := (Box.new wr 139 #[.string x1, .int .i64 x2]).below hb1
        have hb1' : Below w.heap.size w w1 := by (repeat' (first | exact Below.refl _ _ | assumption | refine Below.setCell ?_ ?_ _ | refine below_drewN ?_ _ | refine Below.drew ?_ | refine Below.alloc ?_ ?_ _ | (with_reducible refine Below.trans ?_ (Below.mono hb ?_)) | (with_reducible refine Below.trans ?_ (Below.mono hb0 ?_)) | (with_reducible refine Below.trans ?_ (Below.mono hb1 ?_)) | (with_reducible refine Below.trans ?_ (Below.mono hb2 ?_)) | (with_reducible refine Below.trans ?_ (Below.mono hb3 ?_)) | (with_reducible refine Below.trans ?_ (Below.mono hb4 ?_)) | (with_reducible refine Below.trans ?_ (Below.mono hb5 ?_)) | (with_reducible refine Below.trans ?_ (Below.mono hb6 ?_)) | (with_reducible refine Below.trans ?_ (Below.mono hb7 ?_)) | (with_reducible refine Below.trans ?_ (Below.mono hb8 ?_)) | (with_reducible refine Below.trans ?_ (Below.mono hb9 ?_)) | (with_reducible refine Below.trans ?_ (Below.mono hb10 ?_)) | (with_reducible refine Below.trans ?_ (Below.mono hb11 ?_)) | (with_reducible refine Below.trans ?_ (Below.mono hb12 ?_)) | (with_reducible refine Below.trans ?_ (Below.mono hb13 ?_)) | (with_reducible refine Below.trans ?_ (Below.mono hb14 ?_)) | (with_reducible refine Below.trans ?_ (Below.mono hb15 ?_)) | omega | (simp; done) | (simp; omega)))
        cases hh : (ForestPure.topicOf l x1).isSome
        · rw [hh] at HE
          have He := Lib.hid (Hfe.out 8 (by rw [HE.out]; rfl) (by decide))
          go_wp2_with fail
          go_ret
          exact ⟨by rw [He.out]; rfl, hb1'⟩
        · rw [hh] at HE
          have hT_l := hT.lt; have hT_0 := hT.cell 0; have hT_1 := hT.cell 1; simp at hT_0 hT_1
          go_upto_region 9 with (fail)
          go_cut [23] (fun v wx => v = .bool (ordB (s.map (·.1)) k) ∧ ∃ n, wx = w1.drewN n)
          case first =>
            by_cases hk0 : k = 0
            · have hd : decide (0 < k) = false := by simp [hk0]
              have hd' : decide ((0 : Int) < (k : Int)) = false := by simp [hk0]
              have ho0 : ordB (s.map (·.1)) k = false := by rw [hk0]; rfl
              have Ho := Lib.hid ho0
              clear hk0 ho0
              go_wp2_with fail
              go_quiet (fail); go_wp2_with fail
              go_meet
              exact ⟨by rw [Ho.out] <;> rfl, _, rfl⟩
            · obtain ⟨p, hp⟩ : ∃ p, k = p + 1 := ⟨k - 1, by omega⟩
              have hpl : p < s.length := by omega
              obtain ⟨b', off', ha', d0, d1⟩ := (hs.below hb1').skill hpl; generalize hy : s[p].1 = y at *; have Hy := Lib.hid hy; clear hy d1
              rw [ha] at ha'
              cases ha'
              have Ho := Lib.hid (ordB_at (ks := (s.map (·.1))) (k := k) (p := p) (x := x1) (y := y) hp (by have := Hx.out; simp [List.getElem?_eq_getElem hlt, this]) (by have := Hy.out; simp [List.getElem?_eq_getElem hpl, this]))
              have hwp : IntKind.i64.wrap ((k : Int) - 1) = (p : Int) := by rw [hp, IntWalk.i64_in _ (by omega)]; omega
              have hk1 : 0 < k := by omega
              have hk2 : (0 : Int) < (k : Int) := by omega
              have hp1 : (0 : Int) ≤ (p : Int) := by omega
              have hp2 : (p : Int) < (s.length : Int) := by omega
              have hp3 : (k : Int) - 1 = (p : Int) := by omega
              have Hp := Lib.hid hp
              clear hp hk0
              go_wp2_with fail
              go_quiet (fail); go_wp2_with fail
              go_meet
              exact ⟨by rw [Ho.out] <;> rfl, _, rfl⟩
          case rest =>
            obtain ⟨hso, n, rfl⟩ := hcut
            rw [hso]
            cases hob : ordB (s.map (·.1)) k
            · rw [hob] at HE
              cases hr : (decide (x2 < 1) || decide (100 < x2))
              · rw [hr] at HE
                have Hr := Lib.hid hr
                (have hr1 : 1 ≤ x2 := (by simp at hr; omega)); (have hr2 : x2 ≤ 100 := (by simp at hr; omega)); clear hr; go_wp2_with fail
                rw [← ha]
                go_roundg (s.length - (k + 1))
                case measure => have := hgk.out; omega
                case rel => exact ⟨k + 1, by go_num, by omega, rfl, zeros_succ hf.out (by rw [HE.out]; rfl), below_drewN hb1' _⟩
              · rw [hr] at HE
                have He := Lib.hid (Hfe.out 1 (by rw [HE.out]; rfl) (by decide))
                (rcases (show x2 < 1 ∨ 100 < x2 by simpa using hr) with h9 | h9) <;> go_wp2_with fail
                all_goals
                  go_ret
                  exact ⟨by rw [He.out]; rfl, below_drewN hb1' _⟩
            · rw [hob] at HE
              have He := Lib.hid (Hfe.out 7 (by rw [HE.out]; rfl) (by decide))
              go_wp2_with fail
              go_ret
              exact ⟨by rw [He.out]; rfl, below_drewN hb1' _⟩
      · have hE0 : firstErr (skillE l s) s.length = 0 := by
          obtain rfl : k = s.length := by omega
          exact firstErr_zero hf.out
        have HE0 := Lib.hid hE0
        clear hE0
        go_wp2_with fail
        go_ret
        exact ⟨by rw [HE0.out]; rfl, hb⟩
set_option maxRecDepth 100000 in
set_option maxHeartbeats 4000000 in
theorem skillsFault_any (l : List Topic) (fb : Nat) (s : List Skill) (a2 : Option Addr) (cap2 : Nat) (w : World) (hF : FMap w fb l l.length) (hs : SA w a2 s) (hsl : s.length ≤ 1000000) :
    Calls Tryz.prog 107 #[.map (some fb), .slice a2 s.length cap2] w (Gives (.int .i64 (skillsFault l s)) w) := by
  have HH := Lib.hid (fun x => has_gives l fb x)
  by_cases h100 : 100 < s.length
  · have hv : skillsFault l s = 2 := by simp [skillsFault, h100]
    rw [hv]
    go_enter Tryz.func107, Tryz.ntmps107
    go_wp2_with fail
    go_ret
    exact ⟨rfl, Below.refl _ _⟩
  · have hv : skillsFault l s = firstErr (skillE l s) s.length := by simp [skillsFault, h100]
    rw [hv]
    clear hv
    go_enter Tryz.func107, Tryz.ntmps107
    go_wp2_with fail
    go_loopg [12] s.length (fun gk i wr => ∃ k : Nat, i = .int .i64 k ∧ k ≤ s.length ∧ Hid (gk = s.length - k) ∧ Hid (∀ j, j < k → skillE l s j = 0) ∧ Below w.heap.size w wr)
    case atStart => exact ⟨0, rfl, by omega, rfl, fun j hj => by omega, Below.refl _ _⟩
    case round =>
      obtain ⟨k, rfl, hk, hgk, hf, hb⟩ := hrel
      by_cases hlt : k < s.length
      · obtain ⟨b, off, ha, c0, c1⟩ := (hs.below hb).skill hlt
        have hE : skillE l s k = if (ForestPure.topicOf l s[k].1).isSome = false then 8 else if ordB (s.map (·.1)) k then 7 else if decide (s[k].2 < 1) || decide (100 < s[k].2) then 1 else 0 := by
          unfold skillE; rw [List.getElem?_eq_getElem hlt]
        have HE := Lib.hid hE
        clear hE
        rw [ha]
        generalize hx : s[k] = x at *
        obtain ⟨x1, x2⟩ := x
        have Hx := Lib.hid hx
        clear hx
        simp only at c0 c1 HE
        have hz := hb.size
        have Hfe := Lib.hid (fun (e : Int) he he0 => firstErr_is (f := skillE l s) (e := e) hlt hf.out he he0)
        go_wp2_with fail
        refine (HH.out x1 _ ((hF.below hb).alloc _)).mono ?_
        rintro e w1 ⟨rfl, hb1⟩
        have hz1 := hb1.size
        simp at hz1
        have hT := (Box.new wr 139 #[.string x1, .int .i64 x2]).below hb1
        have hb1' : Below w.heap.size w w1 := by (repeat' (first | exact Below.refl _ _ | assumption | refine Below.setCell ?_ ?_ _ | refine below_drewN ?_ _ | refine Below.drew ?_ | refine Below.alloc ?_ ?_ _ | (with_reducible refine Below.trans ?_ (Below.mono hb ?_)) | (with_reducible refine Below.trans ?_ (Below.mono hb0 ?_)) | (with_reducible refine Below.trans ?_ (Below.mono hb1 ?_)) | (with_reducible refine Below.trans ?_ (Below.mono hb2 ?_)) | (with_reducible refine Below.trans ?_ (Below.mono hb3 ?_)) | (with_reducible refine Below.trans ?_ (Below.mono hb4 ?_)) | (with_reducible refine Below.trans ?_ (Below.mono hb5 ?_)) | (with_reducible refine Below.trans ?_ (Below.mono hb6 ?_)) | (with_reducible refine Below.trans ?_ (Below.mono hb7 ?_)) | (with_reducible refine Below.trans ?_ (Below.mono hb8 ?_)) | (with_reducible refine Below.trans ?_ (Below.mono hb9 ?_)) | (with_reducible refine Below.trans ?_ (Below.mono hb10 ?_)) | (with_reducible refine Below.trans ?_ (Below.mono hb11 ?_)) | (with_reducible refine Below.trans ?_ (Below.mono hb12 ?_)) | (with_reducible refine Below.trans ?_ (Below.mono hb13 ?_)) | (with_reducible refine Below.trans ?_ (Below.mono hb14 ?_)) | (with_reducible refine Below.trans ?_ (Below.mono hb15 ?_)) | omega | (simp; done) | (simp; omega)))
        cases hh : (ForestPure.topicOf l x1).isSome
        · rw [hh] at HE
          have He := Lib.hid (Hfe.out 8 (by rw [HE.out]; rfl) (by decide))
          go_wp2_with fail
          go_ret
          exact ⟨by rw [He.out]; rfl, hb1'⟩
        · rw [hh] at HE
          have hT_l := hT.lt; have hT_0 := hT.cell 0; have hT_1 := hT.cell 1; simp at hT_0 hT_1
          go_upto_region 9 with (fail)
          go_cut [23] (fun v wx => v = .bool (ordB (s.map (·.1)) k) ∧ ∃ n, wx = w1.drewN n)
          case first =>
            by_cases hk0 : k = 0
            · have hd : decide (0 < k) = false := by simp [hk0]
              have hd' : decide ((0 : Int) < (k : Int)) = false := by simp [hk0]
              have ho0 : ordB (s.map (·.1)) k = false := by rw [hk0]; rfl
              have Ho := Lib.hid ho0
              clear hk0 ho0
              go_wp2_with fail
              go_quiet (fail); go_wp2_with fail
              go_meet
              exact ⟨by rw [Ho.out] <;> rfl, _, rfl⟩
            · obtain ⟨p, hp⟩ : ∃ p, k = p + 1 := ⟨k - 1, by omega⟩
              have hpl : p < s.length := by omega
              obtain ⟨b', off', ha', d0, d1⟩ := (hs.below hb1').skill hpl; generalize hy : s[p].1 = y at *; have Hy := Lib.hid hy; clear hy d1
              rw [ha] at ha'
              cases ha'
              have Ho := Lib.hid (ordB_at (ks := (s.map (·.1))) (k := k) (p := p) (x := x1) (y := y) hp (by have := Hx.out; simp [List.getElem?_eq_getElem hlt, this]) (by have := Hy.out; simp [List.getElem?_eq_getElem hpl, this]))
              have hwp : IntKind.i64.wrap ((k : Int) - 1) = (p : Int) := by rw [hp, IntWalk.i64_in _ (by omega)]; omega
              have hk1 : 0 < k := by omega
              have hk2 : (0 : Int) < (k : Int) := by omega
              have hp1 : (0 : Int) ≤ (p : Int) := by omega
              have hp2 : (p : Int) < (s.length : Int) := by omega
              have hp3 : (k : Int) - 1 = (p : Int) := by omega
              have Hp := Lib.hid hp
              clear hp hk0
              go_wp2_with fail
              go_quiet (fail); go_wp2_with fail
              go_meet
              exact ⟨by rw [Ho.out] <;> rfl, _, rfl⟩
          case rest =>
            obtain ⟨hso, n, rfl⟩ := hcut
            rw [hso]
            cases hob : ordB (s.map (·.1)) k
            · rw [hob] at HE
              cases hr : (decide (x2 < 1) || decide (100 < x2))
              · rw [hr] at HE
                have Hr := Lib.hid hr
                go_wp2_with fail; refine (outside_any _ _ _ _).mono ?_; rintro e w2 ⟨rfl, rfl⟩; rw [hr]; go_wp2_with fail
                rw [← ha]
                go_roundg (s.length - (k + 1))
                case measure => have := hgk.out; omega
                case rel => exact ⟨k + 1, by go_num, by omega, rfl, zeros_succ hf.out (by rw [HE.out]; rfl), below_drewN hb1' _⟩
              · rw [hr] at HE
                have He := Lib.hid (Hfe.out 1 (by rw [HE.out]; rfl) (by decide))
                go_wp2_with fail; refine (outside_any _ _ _ _).mono ?_; rintro e w2 ⟨rfl, rfl⟩; rw [hr]; go_wp2_with fail
                all_goals
                  go_ret
                  exact ⟨by rw [He.out]; rfl, below_drewN hb1' _⟩
            · rw [hob] at HE
              have He := Lib.hid (Hfe.out 7 (by rw [HE.out]; rfl) (by decide))
              go_wp2_with fail
              go_ret
              exact ⟨by rw [He.out]; rfl, below_drewN hb1' _⟩
      · have hE0 : firstErr (skillE l s) s.length = 0 := by
          obtain rfl : k = s.length := by omega
          exact firstErr_zero hf.out
        have HE0 := Lib.hid hE0
        clear hE0
        go_wp2_with fail
        go_ret
        exact ⟨by rw [HE0.out]; rfl, hb⟩
set_option maxRecDepth 100000 in
set_option maxHeartbeats 4000000 in
theorem wantedFault_any (l : List Topic) (fb : Nat) (s : List ByteArray) (a2 : Option Addr) (cap2 : Nat) (w : World) (hF : FMap w fb l l.length) (hs : SA w a2 s) (hsl : s.length ≤ 1000000) :
    Calls Tryz.prog 112 #[.map (some fb), .slice a2 s.length cap2] w (Gives (.int .i64 (wantedFault l s)) w) := by
  have HH := Lib.hid (fun x => has_gives l fb x)
  by_cases h100 : 8 < s.length
  · have hv : wantedFault l s = 2 := by simp [wantedFault, h100]
    rw [hv]
    go_enter Tryz.func112, Tryz.ntmps112
    go_wp2_with fail
    go_ret
    exact ⟨rfl, Below.refl _ _⟩
  · have hv : wantedFault l s = firstErr (wantedE l s) s.length := by simp [wantedFault, h100]
    rw [hv]
    clear hv
    go_enter Tryz.func112, Tryz.ntmps112
    go_wp2_with fail
    go_loopg [12] s.length (fun gk i wr => ∃ k : Nat, i = .int .i64 k ∧ k ≤ s.length ∧ Hid (gk = s.length - k) ∧ Hid (∀ j, j < k → wantedE l s j = 0) ∧ Below w.heap.size w wr)
    case atStart => exact ⟨0, rfl, by omega, rfl, fun j hj => by omega, Below.refl _ _⟩
    case round =>
      obtain ⟨k, rfl, hk, hgk, hf, hb⟩ := hrel
      by_cases hlt : k < s.length
      · obtain ⟨b, off, ha, c0⟩ := (hs.below hb).str hlt
        have hE : wantedE l s k = if (ForestPure.topicOf l s[k]).isSome = false then 8 else if ordB s k then 7 else 0 := by
          unfold wantedE; rw [List.getElem?_eq_getElem hlt]
        have HE := Lib.hid hE
        clear hE
        rw [ha]
        generalize hx : s[k] = x1 at *
        have Hx := Lib.hid hx
        clear hx
        have hz := hb.size
        have Hfe := Lib.hid (fun (e : Int) he he0 => firstErr_is (f := wantedE l s) (e := e) hlt hf.out he he0)
        go_wp2_with fail
        refine (HH.out x1 _ (hF.below hb)).mono ?_
        rintro e w1 ⟨rfl, hb1⟩
        have hz1 := hb1.size
        have hb1' : Below w.heap.size w w1 := below_next hb hb1
        cases hh : (ForestPure.topicOf l x1).isSome
        · rw [hh] at HE
          have He := Lib.hid (Hfe.out 8 (by rw [HE.out]; rfl) (by decide))
          go_wp2_with fail
          go_ret
          exact ⟨by rw [He.out]; rfl, hb1'⟩
        · rw [hh] at HE
          go_upto_region 8 with (fail)
          go_cut [31] (fun v wx => v = .bool (ordB s k) ∧ ∃ n, wx = w1.drewN n)
          case first =>
            by_cases hk0 : k = 0
            · have hd : decide (0 < k) = false := by simp [hk0]
              have hd' : decide ((0 : Int) < (k : Int)) = false := by simp [hk0]
              have ho0 : ordB s k = false := by rw [hk0]; rfl
              have Ho := Lib.hid ho0
              clear hk0 ho0
              go_wp2_with fail
              skip
              go_meet
              exact ⟨by rw [Ho.out] <;> rfl, 0, rfl⟩
            · obtain ⟨p, hp⟩ : ∃ p, k = p + 1 := ⟨k - 1, by omega⟩
              have hpl : p < s.length := by omega
              obtain ⟨b', off', ha', d0⟩ := (hs.below hb1').str hpl; generalize hy : s[p] = y at *; have Hy := Lib.hid hy; clear hy
              rw [ha] at ha'
              cases ha'
              have Ho := Lib.hid (ordB_at (ks := s) (k := k) (p := p) (x := x1) (y := y) hp (by have := Hx.out; simp [List.getElem?_eq_getElem hlt, this]) (by have := Hy.out; simp [List.getElem?_eq_getElem hpl, this]))
              have hwp : IntKind.i64.wrap ((k : Int) - 1) = (p : Int) := by rw [hp, IntWalk.i64_in _ (by omega)]; omega
              have hk1 : 0 < k := by omega
              have hk2 : (0 : Int) < (k : Int) := by omega
              have hp1 : (0 : Int) ≤ (p : Int) := by omega
              have hp2 : (p : Int) < (s.length : Int) := by omega
              have hp3 : (k : Int) - 1 = (p : Int) := by omega
              have Hp := Lib.hid hp
              clear hp hk0
              go_wp2_with fail
              skip
              go_meet
              exact ⟨by rw [Ho.out] <;> rfl, 0, rfl⟩
          case rest =>
            obtain ⟨hso, n, rfl⟩ := hcut
            rw [hso]
            cases hob : ordB s k
            · rw [hob] at HE
              go_wp2_with fail
              rw [← ha]
              go_roundg (s.length - (k + 1))
              case measure => have := hgk.out; omega
              case rel => exact ⟨k + 1, by go_num, by omega, rfl, zeros_succ hf.out (by rw [HE.out]; rfl), below_drewN hb1' _⟩
            · rw [hob] at HE
              have He := Lib.hid (Hfe.out 7 (by rw [HE.out]; rfl) (by decide))
              go_wp2_with fail
              go_ret
              exact ⟨by rw [He.out]; rfl, below_drewN hb1' _⟩
      · have hE0 : firstErr (wantedE l s) s.length = 0 := by
          obtain rfl : k = s.length := by omega
          exact firstErr_zero hf.out
        have HE0 := Lib.hid hE0
        clear hE0
        go_wp2_with fail
        go_ret
        exact ⟨by rw [HE0.out]; rfl, hb⟩
end Go.Proofs.YtpgofjjcmldhpaaGreatDoor
