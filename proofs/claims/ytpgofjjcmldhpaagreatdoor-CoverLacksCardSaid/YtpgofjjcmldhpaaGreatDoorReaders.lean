/- Readers: how they lie in memory; what is wrong with them: CheckReaders of the program, ReadersFault of the reference. -/
import Derived.Test.YtpgofjjcmldhpaaGreatDoorBids
import Derived.Test.YtpgofjjcmldhpaaGreatDoorSkill1
namespace Go.Proofs.YtpgofjjcmldhpaaGreatDoor
open Go.RowKit
set_option linter.unusedVariables false
set_option linter.unusedSimpArgs false

/-- A reader, and where the skills lie. -/
structure Reader where
  key : ByteArray
  skills : List Skill
  a : Option Addr
  c : Nat
instance : Cel Reader := ⟨2, fun r => [.string r.key, .slice r.a r.skills.length r.c], fun _ => rfl, by decide, by simp [Value.oneCell']⟩
theorem SA.reader {w : World} {a : Option Addr} {l : List Reader} (h : SA w a l) {i : Nat} (hi : i < l.length) :
    ∃ b off, a = some ⟨b, off, none⟩ ∧ w.cell? ⟨b, off + i * 2, none⟩ = some (.string l[i].key) ∧ w.cell? ⟨b, off + i * 2 + 1, none⟩ = some (.slice l[i].a l[i].skills.length l[i].c) := by
  obtain ⟨b, off, ha, hc⟩ := h.at hi
  exact ⟨b, off, ha, hc 0 (by decide), hc 1 (by decide)⟩
/-- Readers in memory. -/
def ReadersAt (w : World) (a : Option Addr) (rs : List Reader) : Prop := SA w a rs ∧ ∀ r ∈ rs, SA w r.a r.skills
theorem ReadersAt.below {w w' : World} {a : Option Addr} {rs : List Reader} (h : ReadersAt w a rs) (hb : Below w.heap.size w w') : ReadersAt w' a rs := ⟨h.1.below hb, fun r hr => (h.2 r hr).below hb⟩
def RSmall (r : Reader) : Prop := r.key.size ≤ 1000 ∧ r.skills.length ≤ 1000
def readerE (l : List Topic) (rs : List Reader) (i : Nat) : Int :=
  match rs[i]? with
  | none => 0
  | some r => if keyB r.key = false then 5 else if ordB (rs.map (·.key)) i then 7 else skillsFault l r.skills
def readersFault (l : List Topic) (rs : List Reader) : Int := if 100 < rs.length then 2 else firstErr (readerE l rs) rs.length

set_option maxRecDepth 100000 in
set_option maxHeartbeats 4000000 in
theorem readersFaultP_any (l : List Topic) (fb : Nat) (s : List Reader) (a : Option Addr) (cap : Nat) (w : World) (hF : FMap w fb l l.length) (hs : ReadersAt w a s) (hsl : s.length ≤ 1000000) (hsm : ∀ r ∈ s, RSmall r) :
    Calls Tryz.prog 63 #[.map (some fb), .slice a s.length cap] w (Gives (.int .i64 (readersFault l s)) w) := by
  have HK : Hid (∀ r ∈ s, ∀ W, FMap W fb l l.length → SA W r.a r.skills → Calls Tryz.prog 107 #[.map (some fb), .slice r.a r.skills.length r.c] W (Gives (.int .i64 (skillsFault l r.skills)) W)) := fun r hr W h1 h2 => skillsFault_any l fb r.skills r.a r.c W h1 h2 (by have := (hsm r hr).2; omega)
  by_cases h100 : 100 < s.length
  · have hv : readersFault l s = 2 := by simp [readersFault, h100]
    rw [hv]
    go_enter Tryz.func63, Tryz.ntmps63
    go_wp2_with fail
    go_ret
    exact ⟨rfl, Below.refl _ _⟩
  · have hv : readersFault l s = firstErr (readerE l s) s.length := by simp [readersFault, h100]
    rw [hv]
    clear hv
    go_enter Tryz.func63, Tryz.ntmps63
    go_wp2_with fail
    go_loopg [13] s.length (fun gk i wr => ∃ k : Nat, i = .int .i64 k ∧ k ≤ s.length ∧ Hid (gk = s.length - k) ∧ Hid (∀ j, j < k → readerE l s j = 0) ∧ Below w.heap.size w wr)
    case atStart => exact ⟨0, rfl, by omega, rfl, fun j hj => by omega, Below.refl _ _⟩
    case round =>
      obtain ⟨k, rfl, hk, hgk, hf, hb⟩ := hrel
      by_cases hlt : k < s.length
      · obtain ⟨b, off, ha, c0, c1⟩ := (hs.below hb).1.reader hlt
        have hE : readerE l s k = if keyB s[k].key = false then 5 else if ordB (s.map (·.key)) k then 7 else skillsFault l s[k].skills := by
          unfold readerE; rw [List.getElem?_eq_getElem hlt]
        have HE := Lib.hid hE
        have hsm2 := hsm s[k] (List.getElem_mem hlt)
        have hrd := hs.2 s[k] (List.getElem_mem hlt)
        have HSk := Lib.hid (HK.out s[k] (List.getElem_mem hlt))
        clear hE
        rw [ha]
        generalize hx : s[k] = x at *
        generalize skillsFault l x.skills = sf at *
        obtain ⟨x1, xsk, xa, xc⟩ := x
        have Hx : Hid (s[k].key = x1) := by rw [hx]; rfl
        clear hx
        obtain ⟨hs1, hs2⟩ := hsm2
        simp only at c0 c1 HE hs1 hs2 hrd HSk
        have hz := hb.size
        have Hfe := Lib.hid (fun (e : Int) he he0 => firstErr_is (f := readerE l s) (e := e) hlt hf.out he he0)
        go_wp2_with fail
        refine (isKeyB_any x1 _ (by omega)).mono ?_
        rintro e w1 ⟨rfl, hb1⟩
        have hz1 := hb1.size
        simp at hz1
        have hT := (Box.new wr 92 #[.string x1, .slice xa xsk.length xc]).below hb1
        have hb1' : Below w.heap.size w w1 := by (repeat' (first | exact Below.refl _ _ | assumption | refine Below.setCell ?_ ?_ _ | refine below_drewN ?_ _ | refine Below.drew ?_ | refine Below.alloc ?_ ?_ _ | (with_reducible refine Below.trans ?_ (Below.mono hb ?_)) | (with_reducible refine Below.trans ?_ (Below.mono hb0 ?_)) | (with_reducible refine Below.trans ?_ (Below.mono hb1 ?_)) | (with_reducible refine Below.trans ?_ (Below.mono hb2 ?_)) | (with_reducible refine Below.trans ?_ (Below.mono hb3 ?_)) | (with_reducible refine Below.trans ?_ (Below.mono hb4 ?_)) | (with_reducible refine Below.trans ?_ (Below.mono hb5 ?_)) | (with_reducible refine Below.trans ?_ (Below.mono hb6 ?_)) | (with_reducible refine Below.trans ?_ (Below.mono hb7 ?_)) | (with_reducible refine Below.trans ?_ (Below.mono hb8 ?_)) | (with_reducible refine Below.trans ?_ (Below.mono hb9 ?_)) | (with_reducible refine Below.trans ?_ (Below.mono hb10 ?_)) | (with_reducible refine Below.trans ?_ (Below.mono hb11 ?_)) | (with_reducible refine Below.trans ?_ (Below.mono hb12 ?_)) | (with_reducible refine Below.trans ?_ (Below.mono hb13 ?_)) | (with_reducible refine Below.trans ?_ (Below.mono hb14 ?_)) | (with_reducible refine Below.trans ?_ (Below.mono hb15 ?_)) | omega | (simp; done) | (simp; omega)))
        clear hb1
        cases hkb : keyB x1
        · rw [hkb, if_pos rfl] at HE
          have He := Lib.hid (Hfe.out 5 HE.out (by decide))
          go_wp2_with fail
          go_ret
          exact ⟨by rw [He.out]; rfl, hb1'⟩
        · rw [hkb, if_neg (by decide)] at HE
          have hT_l := hT.lt; have hT_0 := hT.cell 0; have hT_1 := hT.cell 1; simp at hT_0 hT_1
          go_upto_region 8 with (fail)
          go_cut [34] (fun v wx => v = .bool (ordB (s.map (·.key)) k) ∧ ∃ n, wx = w1.drewN n)
          case first =>
            by_cases hk0 : k = 0
            · have hd : decide (0 < k) = false := by simp [hk0]
              have hd' : decide ((0 : Int) < (k : Int)) = false := by simp [hk0]
              have ho0 : ordB (s.map (·.key)) k = false := by rw [hk0]; rfl
              have Ho := Lib.hid ho0
              clear hk0 ho0
              go_wp2_with fail
              go_quiet (fail); go_wp2_with fail
              go_meet
              exact ⟨by rw [Ho.out] <;> rfl, _, rfl⟩
            · obtain ⟨p, hp⟩ : ∃ p, k = p + 1 := ⟨k - 1, by omega⟩
              have hpl : p < s.length := by omega
              obtain ⟨b', off', ha', d0, d1⟩ := (hs.below hb1').1.reader hpl; generalize hy : s[p].key = y at *; have Hy := Lib.hid hy; clear hy d1
              rw [ha] at ha'
              cases ha'
              have Ho := Lib.hid (ordB_at (ks := (s.map (·.key))) (k := k) (p := p) (x := x1) (y := y) hp (by have := Hx.out; simp [List.getElem?_eq_getElem hlt, this]) (by have := Hy.out; simp [List.getElem?_eq_getElem hpl, this]))
              have hwp : IntKind.i64.wrap ((k : Int) - 1) = (p : Int) := by rw [hp, IntWalk.i64_in _ (by omega)]; omega
              have hk1 : 0 < k := by omega
              have hk2 : (0 : Int) < (k : Int) := by omega
              have hp1 : (0 : Int) ≤ (p : Int) := by omega
              have hp2 : (p : Int) < (s.length : Int) := by omega
              have hp3 : (k : Int) - 1 = (p : Int) := by omega
              have Hp := Lib.hid hp
              clear hp hk0
              go_wp2_with fail
              go_quiet (fail); go_wp2_with fail
              go_meet
              exact ⟨by rw [Ho.out] <;> rfl, _, rfl⟩
          case rest =>
            obtain ⟨hso, n, rfl⟩ := hcut
            rw [hso]
            cases hob : ordB (s.map (·.key)) k
            · rw [hob] at HE
              have hTn := hT.drewN n
              have hbn := below_drewN hb1' n
              clear hT_l hT_0 hT_1
              clear hT
              have hTn_l := hTn.lt; have hTn_0 := hTn.cell 0; have hTn_1 := hTn.cell 1; simp at hTn_0 hTn_1
              go_wp2_with fail
              refine (HSk.out _ (hF.below hbn) (hrd.below hbn)).mono ?_
              rintro e w2 ⟨rfl, hb2⟩
              have hb2' := below_next hbn hb2
              by_cases hsf : sf = 0
              · have hq : (sf != 0) = false := by simpa using hsf
                have HZ := Lib.hid (show readerE l s k = 0 by rw [HE.out]; simp [hsf])
                clear hsf
                go_wp2_with fail
                rw [← ha]
                go_roundg (s.length - (k + 1))
                case measure => have := hgk.out; omega
                case rel => exact ⟨k + 1, by go_num, by omega, rfl, zeros_succ hf.out HZ.out, hb2'⟩
              · have hq : (sf != 0) = true := by simpa using hsf
                have He := Lib.hid (Hfe.out sf (by rw [HE.out]; simp) hsf)
                clear hsf
                go_wp2_with fail
                go_ret
                exact ⟨by rw [He.out]; rfl, hb2'⟩
            · rw [hob] at HE
              have He := Lib.hid (Hfe.out 7 (by rw [HE.out]; rfl) (by decide))
              go_wp2_with fail
              go_ret
              exact ⟨by rw [He.out]; rfl, below_drewN hb1' _⟩
      · have hE1 : firstErr (readerE l s) s.length = 0 := by
          obtain rfl : k = s.length := by omega
          exact firstErr_zero hf.out
        have HE1 := Lib.hid hE1
        clear hE1
        go_wp2_with fail
        go_ret
        exact ⟨by rw [HE1.out]; rfl, hb⟩
set_option maxRecDepth 100000 in
set_option maxHeartbeats 4000000 in
theorem readersFaultR_any (l : List Topic) (al : Option Addr) (capl : Nat) (s : List Reader) (a : Option Addr) (cap : Nat) (w : World) (hl : SA w al l) (hs : ReadersAt w a s) (hlen : l.length ≤ 1000000) (hsl : s.length ≤ 1000000) (hsm : ∀ r ∈ s, RSmall r) :
    Calls Tryz.prog 18 #[.slice al l.length capl, .slice a s.length cap] w (Gives (.int .i64 (readersFault l s)) w) := by
  have HK : Hid (∀ r ∈ s, ∀ W, SA W al l → SA W r.a r.skills → Calls Tryz.prog 61 #[.slice al l.length capl, .slice r.a r.skills.length r.c] W (Gives (.int .i64 (skillsFault l r.skills)) W)) := fun r hr W h1 h2 => skillsFaultR_any l al capl r.skills r.a r.c W h1 h2 hlen (by have := (hsm r hr).2; omega)
  by_cases h100 : 100 < s.length
  · have hv : readersFault l s = 2 := by simp [readersFault, h100]
    rw [hv]
    go_enter Tryz.func18, Tryz.ntmps18
    go_wp2_with fail
    go_ret
    exact ⟨rfl, Below.refl _ _⟩
  · have hv : readersFault l s = firstErr (readerE l s) s.length := by simp [readersFault, h100]
    rw [hv]
    clear hv
    go_enter Tryz.func18, Tryz.ntmps18
    go_wp2_with fail
    go_loopg [13] s.length (fun gk i wr => ∃ k : Nat, i = .int .i64 k ∧ k ≤ s.length ∧ Hid (gk = s.length - k) ∧ Hid (∀ j, j < k → readerE l s j = 0) ∧ Below w.heap.size w wr)
    case atStart => exact ⟨0, rfl, by omega, rfl, fun j hj => by omega, Below.refl _ _⟩
    case round =>
      obtain ⟨k, rfl, hk, hgk, hf, hb⟩ := hrel
      by_cases hlt : k < s.length
      · obtain ⟨b, off, ha, c0, c1⟩ := (hs.below hb).1.reader hlt
        have hE : readerE l s k = if keyB s[k].key = false then 5 else if ordB (s.map (·.key)) k then 7 else skillsFault l s[k].skills := by
          unfold readerE; rw [List.getElem?_eq_getElem hlt]
        have HE := Lib.hid hE
        have hsm2 := hsm s[k] (List.getElem_mem hlt)
        have hrd := hs.2 s[k] (List.getElem_mem hlt)
        have HSk := Lib.hid (HK.out s[k] (List.getElem_mem hlt))
        clear hE
        rw [ha]
        generalize hx : s[k] = x at *
        generalize skillsFault l x.skills = sf at *
        obtain ⟨x1, xsk, xa, xc⟩ := x
        have Hx : Hid (s[k].key = x1) := by rw [hx]; rfl
        clear hx
        obtain ⟨hs1, hs2⟩ := hsm2
        simp only at c0 c1 HE hs1 hs2 hrd HSk
        have hz := hb.size
        have Hfe := Lib.hid (fun (e : Int) he he0 => firstErr_is (f := readerE l s) (e := e) hlt hf.out he he0)
        go_wp2_with fail
        refine (keyOf_any x1 _ (by omega)).mono ?_
        rintro e w1 ⟨rfl, hb1⟩
        have hz1 := hb1.size
        simp at hz1
        have hT := (Box.new wr 92 #[.string x1, .slice xa xsk.length xc]).below hb1
        have hb1' : Below w.heap.size w w1 := by (repeat' (first | exact Below.refl _ _ | assumption | refine Below.setCell ?_ ?_ _ | refine below_drewN ?_ _ | refine Below.drew ?_ | refine Below.alloc ?_ ?_ _ | (with_reducible refine Below.trans ?_ (Below.mono hb ?_)) | (with_reducible refine Below.trans ?_ (Below.mono hb0 ?_)) | (with_reducible refine Below.trans ?_ (Below.mono hb1 ?_)) | (with_reducible refine Below.trans ?_ (Below.mono hb2 ?_)) | (with_reducible refine Below.trans ?_ (Below.mono hb3 ?_)) | (with_reducible refine Below.trans ?_ (Below.mono hb4 ?_)) | (with_reducible refine Below.trans ?_ (Below.mono hb5 ?_)) | (with_reducible refine Below.trans ?_ (Below.mono hb6 ?_)) | (with_reducible refine Below.trans ?_ (Below.mono hb7 ?_)) | (with_reducible refine Below.trans ?_ (Below.mono hb8 ?_)) | (with_reducible refine Below.trans ?_ (Below.mono hb9 ?_)) | (with_reducible refine Below.trans ?_ (Below.mono hb10 ?_)) | (with_reducible refine Below.trans ?_ (Below.mono hb11 ?_)) | (with_reducible refine Below.trans ?_ (Below.mono hb12 ?_)) | (with_reducible refine Below.trans ?_ (Below.mono hb13 ?_)) | (with_reducible refine Below.trans ?_ (Below.mono hb14 ?_)) | (with_reducible refine Below.trans ?_ (Below.mono hb15 ?_)) | omega | (simp; done) | (simp; omega)))
        clear hb1
        cases hkb : keyB x1
        · rw [hkb, if_pos rfl] at HE
          have He := Lib.hid (Hfe.out 5 HE.out (by decide))
          go_wp2_with fail
          go_ret
          exact ⟨by rw [He.out]; rfl, hb1'⟩
        · rw [hkb, if_neg (by decide)] at HE
          have hT_l := hT.lt; have hT_0 := hT.cell 0; have hT_1 := hT.cell 1; simp at hT_0 hT_1
          go_upto_region 8 with (fail)
          go_cut [34] (fun v wx => v = .bool (ordB (s.map (·.key)) k) ∧ ∃ n, wx = w1.drewN n)
          case first =>
            by_cases hk0 : k = 0
            · have hd : decide (0 < k) = false := by simp [hk0]
              have hd' : decide ((0 : Int) < (k : Int)) = false := by simp [hk0]
              have ho0 : ordB (s.map (·.key)) k = false := by rw [hk0]; rfl
              have Ho := Lib.hid ho0
              clear hk0 ho0
              go_wp2_with fail
              go_quiet (fail); go_wp2_with fail
              go_meet
              exact ⟨by rw [Ho.out] <;> rfl, _, rfl⟩
            · obtain ⟨p, hp⟩ : ∃ p, k = p + 1 := ⟨k - 1, by omega⟩
              have hpl : p < s.length := by omega
              obtain ⟨b', off', ha', d0, d1⟩ := (hs.below hb1').1.reader hpl; generalize hy : s[p].key = y at *; have Hy := Lib.hid hy; clear hy d1
              rw [ha] at ha'
              cases ha'
              have Ho := Lib.hid (ordB_at (ks := (s.map (·.key))) (k := k) (p := p) (x := x1) (y := y) hp (by have := Hx.out; simp [List.getElem?_eq_getElem hlt, this]) (by have := Hy.out; simp [List.getElem?_eq_getElem hpl, this]))
              have hwp : IntKind.i64.wrap ((k : Int) - 1) = (p : Int) := by rw [hp, IntWalk.i64_in _ (by omega)]; omega
              have hk1 : 0 < k := by omega
              have hk2 : (0 : Int) < (k : Int) := by omega
              have hp1 : (0 : Int) ≤ (p : Int) := by omega
              have hp2 : (p : Int) < (s.length : Int) := by omega
              have hp3 : (k : Int) - 1 = (p : Int) := by omega
              have Hp := Lib.hid hp
              clear hp hk0
              go_wp2_with fail
              go_quiet (fail); go_wp2_with fail
              go_meet
              exact ⟨by rw [Ho.out] <;> rfl, _, rfl⟩
          case rest =>
            obtain ⟨hso, n, rfl⟩ := hcut
            rw [hso]
            cases hob : ordB (s.map (·.key)) k
            · rw [hob] at HE
              have hTn := hT.drewN n
              have hbn := below_drewN hb1' n
              clear hT_l hT_0 hT_1
              clear hT
              have hTn_l := hTn.lt; have hTn_0 := hTn.cell 0; have hTn_1 := hTn.cell 1; simp at hTn_0 hTn_1
              go_wp2_with fail
              refine (HSk.out _ (hl.below hbn) (hrd.below hbn)).mono ?_
              rintro e w2 ⟨rfl, hb2⟩
              have hb2' := below_next hbn hb2
              by_cases hsf : sf = 0
              · have hq : (sf != 0) = false := by simpa using hsf
                have HZ := Lib.hid (show readerE l s k = 0 by rw [HE.out]; simp [hsf])
                clear hsf
                go_wp2_with fail
                rw [← ha]
                go_roundg (s.length - (k + 1))
                case measure => have := hgk.out; omega
                case rel => exact ⟨k + 1, by go_num, by omega, rfl, zeros_succ hf.out HZ.out, hb2'⟩
              · have hq : (sf != 0) = true := by simpa using hsf
                have He := Lib.hid (Hfe.out sf (by rw [HE.out]; simp) hsf)
                clear hsf
                go_wp2_with fail
                go_ret
                exact ⟨by rw [He.out]; rfl, hb2'⟩
            · rw [hob] at HE
              have He := Lib.hid (Hfe.out 7 (by rw [HE.out]; rfl) (by decide))
              go_wp2_with fail
              go_ret
              exact ⟨by rw [He.out]; rfl, below_drewN hb1' _⟩
      · have hE1 : firstErr (readerE l s) s.length = 0 := by
          obtain rfl : k = s.length := by omega
          exact firstErr_zero hf.out
        have HE1 := Lib.hid hE1
        clear hE1
        go_wp2_with fail
        go_ret
        exact ⟨by rw [HE1.out]; rfl, hb⟩
/-- The error of CheckReaders. -/
def readersX (l : List Topic) (s : List Reader) : Int := if forestFault l ≠ 0 then forestFault l else readersFault l s
set_option maxHeartbeats 4000000 in
theorem checkReaders_any (l : List Topic) (al : Option Addr) (capl : Nat) (s : List Reader) (a : Option Addr) (cap : Nat) (w : World) (hl : SA w al l) (hs : ReadersAt w a s) (hlen : l.length ≤ 1000000) (hsl : s.length ≤ 1000000) (hsmT : SmallT l) (hsm : ∀ r ∈ s, RSmall r) :
    Calls Tryz.prog 19 #[.slice al l.length capl, .slice a s.length cap] w (Gives (.int .i64 (readersX l s)) w) := by
  have HC := Lib.hid (checkForest_any l al capl w hl hlen hsmT)
  unfold readersX
  by_cases hf : forestFault l = 0
  · obtain ⟨h100, hR, _⟩ := fault_zero hf
    rw [hf] at HC
    rw [if_neg (by simp [hf])]
    clear hf
    go_enter Tryz.func19, Tryz.ntmps19
    go_wp2_with fail
    refine HC.out.mono ?_
    rintro e w1 ⟨rfl, hb1⟩
    go_wp2_with fail
    refine (forestOf_any l al capl w1 (hl.below hb1) hlen hR).mono ?_
    rintro e w2 ⟨bF, rfl, hF, hb2⟩
    have hbw := below_next hb1 hb2
    go_wp2_with fail
    refine (readersFaultP_any l bF s a cap w2 hF (hs.below hbw) hsl hsm).mono ?_
    rintro e w3 ⟨rfl, hb3⟩
    go_wp2_with fail
    go_ret
    exact ⟨rfl, below_next hbw hb3⟩
  · rw [if_pos hf]
    generalize forestFault l = ff at *
    have hq : (ff != 0) = true := by simpa using hf
    clear hf
    go_enter Tryz.func19, Tryz.ntmps19
    go_wp2_with fail
    refine HC.out.mono ?_
    rintro e w1 ⟨rfl, hb1⟩
    go_wp2_with fail
    go_ret
    exact ⟨rfl, hb1⟩
end Go.Proofs.YtpgofjjcmldhpaaGreatDoor
