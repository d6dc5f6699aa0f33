/- What is wrong with lists of papers: CheckPapers; PapersFault. -/
import Derived.Test.YtdkenbnfelekgaaDoorPaper2
namespace Go.Proofs.YtdkenbnfelekgaaDoor
open Go.RowKit
set_option linter.unusedVariables false
set_option linter.unusedSimpArgs false

theorem SA.paper {w : World} {a : Option Addr} {l : List Paper} (h : SA w a l) {i : Nat} (hi : i < l.length) :
    ∃ b off, a = some ⟨b, off, none⟩ ∧ w.cell? ⟨b, off + i * 5, none⟩ = some (.string l[i].id) ∧ w.cell? ⟨b, off + i * 5 + 1, none⟩ = some (.string l[i].track) ∧ w.cell? ⟨b, off + i * 5 + 1 + 1, none⟩ = some (.string l[i].title) ∧ w.cell? ⟨b, off + i * 5 + 1 + 1 + 1, none⟩ = some (.slice l[i].a1 l[i].authors.length l[i].c1) ∧ w.cell? ⟨b, off + i * 5 + 1 + 1 + 1 + 1, none⟩ = some (.slice l[i].a2 l[i].topics.length l[i].c2) := by
  obtain ⟨b, off, ha, hc⟩ := h.at hi
  exact ⟨b, off, ha, hc 0 (by decide), hc 1 (by decide), hc 2 (by decide), hc 3 (by decide), hc 4 (by decide)⟩
/-- Papers in memory. -/
def PapersAt (w : World) (a : Option Addr) (ps : List Paper) : Prop := SA w a ps ∧ ∀ p ∈ ps, PRd w p
theorem PapersAt.below {w w' : World} {a : Option Addr} {ps : List Paper} (h : PapersAt w a ps) (hb : Below w.heap.size w w') : PapersAt w' a ps := ⟨h.1.below hb, fun p hp => (h.2 p hp).below hb⟩

set_option maxRecDepth 100000 in
set_option maxHeartbeats 4000000 in
theorem checkPapers_any (s : List Paper) (a : Option Addr) (cap : Nat) (w : World) (hE0 : Env w) (hs : PapersAt w a s) (hsl : s.length ≤ 1000000) (hsm : ∀ p ∈ s, PSmall p) :
    Calls Tryd.prog 11 #[.slice a s.length cap] w (Gives (.int .i64 (papersFault s)) w) := by
  by_cases h100 : 400 < s.length
  · have hv : papersFault s = 2 := by simp [papersFault, h100]
    rw [hv]
    go_enter Tryd.func11, Tryd.ntmps11
    go_wp2_with fail
    go_ret
    exact ⟨rfl, Below.refl _ _⟩
  · have hv : papersFault s = firstErr (papersE s) s.length := by simp [papersFault, h100]
    rw [hv]
    clear hv
    go_enter Tryd.func11, Tryd.ntmps11
    go_wp2_with fail
    go_loopg [11] s.length (fun gk i wr => ∃ k : Nat, i = .int .i64 k ∧ k ≤ s.length ∧ Hid (gk = s.length - k) ∧ Hid (∀ j, j < k → papersE s j = 0) ∧ Below w.heap.size w wr)
    case atStart => exact ⟨0, rfl, by omega, rfl, fun j hj => by omega, Below.refl _ _⟩
    case round =>
      obtain ⟨k, rfl, hk, hgk, hf, hb⟩ := hrel
      by_cases hlt : k < s.length
      · obtain ⟨b, off, ha, c0, c1, c2, c3, c4⟩ := (hs.below hb).1.paper hlt
        have hE : papersE s k = if paperFault s[k] ≠ 0 then paperFault s[k] else if ordB (s.map (·.id)) k then 7 else 0 := by
          unfold papersE; rw [List.getElem?_eq_getElem hlt]
        have HE := Lib.hid hE
        have hmem := List.getElem_mem hlt
        have HP := Lib.hid (fun (w : World) (he : Env w) (hp : PRd w s[k]) => checkPaper_any s[k] w he hp (hsm s[k] hmem))
        have hrd := (hs.below hb).2 s[k] hmem
        clear hE hmem
        unfold Paper.agg at HP
        rw [ha]
        generalize hx : s[k] = x at *
        generalize paperFault x = pf at *
        obtain ⟨x1, x2, x3, xau, xto, xa1, xc1, xa2, xc2⟩ := x
        have Hx : Hid (s[k].id = x1) := by rw [hx]; rfl
        clear hx
        simp only at c0 c1 c2 c3 c4 HP
        have hz := hb.size
        have Hfe := Lib.hid (fun (e : Int) he he0 => firstErr_is (f := papersE s) (e := e) hlt hf.out he he0)
        go_wp2_with fail
        refine (HP.out _ ((hE0.below hb).alloc _) (hrd.below ((Below.refl _ _).alloc (Nat.le_refl _) _))).mono ?_
        rintro e w1 ⟨rfl, hb1⟩
        have hz1 := hb1.size
        simp at hz1
        have hT := (Box.new wr 30 #[.string x1, .string x2, .string x3, .slice xa1 xau.length xc1, .slice xa2 xto.length xc2]).below hb1
        have hb1' : Below w.heap.size w w1 := by (repeat' (first | exact Below.refl _ _ | assumption | refine Below.setCell ?_ ?_ _ | refine below_drewN ?_ _ | refine Below.drew ?_ | refine Below.alloc ?_ ?_ _ | (with_reducible refine Below.trans ?_ (Below.mono hb ?_)) | (with_reducible refine Below.trans ?_ (Below.mono hb0 ?_)) | (with_reducible refine Below.trans ?_ (Below.mono hb1 ?_)) | (with_reducible refine Below.trans ?_ (Below.mono hb2 ?_)) | (with_reducible refine Below.trans ?_ (Below.mono hb3 ?_)) | (with_reducible refine Below.trans ?_ (Below.mono hb4 ?_)) | (with_reducible refine Below.trans ?_ (Below.mono hb5 ?_)) | (with_reducible refine Below.trans ?_ (Below.mono hb6 ?_)) | (with_reducible refine Below.trans ?_ (Below.mono hb7 ?_)) | (with_reducible refine Below.trans ?_ (Below.mono hb8 ?_)) | (with_reducible refine Below.trans ?_ (Below.mono hb9 ?_)) | (with_reducible refine Below.trans ?_ (Below.mono hb10 ?_)) | (with_reducible refine Below.trans ?_ (Below.mono hb11 ?_)) | (with_reducible refine Below.trans ?_ (Below.mono hb12 ?_)) | (with_reducible refine Below.trans ?_ (Below.mono hb13 ?_)) | (with_reducible refine Below.trans ?_ (Below.mono hb14 ?_)) | (with_reducible refine Below.trans ?_ (Below.mono hb15 ?_)) | omega | (simp; done) | (simp; omega)))
        clear hb1 hrd
        by_cases hpf : pf = 0
        · rw [if_neg (by simp [hpf])] at HE
          have hq : (pf != 0) = false := by simpa using hpf
          clear hpf
          have hT_l := hT.lt; have hT_0 := hT.cell 0; have hT_1 := hT.cell 1; have hT_2 := hT.cell 2; have hT_3 := hT.cell 3; have hT_4 := hT.cell 4; simp at hT_0 hT_1 hT_2 hT_3 hT_4
          go_upto_region 9 with (fail)
          go_cut [33] (fun v wx => v = .bool (ordB (s.map (·.id)) k) ∧ ∃ n, wx = w1.drewN n)
          case first =>
            by_cases hk0 : k = 0
            · have hd : decide (0 < k) = false := by simp [hk0]
              have hd' : decide ((0 : Int) < (k : Int)) = false := by simp [hk0]
              have ho0 : ordB (s.map (·.id)) k = false := by rw [hk0]; rfl
              have Ho := Lib.hid ho0
              clear hk0 ho0
              go_wp2_with fail
              go_quiet (fail); go_wp2_with fail
              go_meet
              exact ⟨by rw [Ho.out] <;> rfl, _, rfl⟩
            · obtain ⟨p, hp⟩ : ∃ p, k = p + 1 := ⟨k - 1, by omega⟩
              have hpl : p < s.length := by omega
              obtain ⟨b', off', ha', d0, d1, d2, d3, d4⟩ := (hs.below hb1').1.paper hpl; generalize hy : s[p].id = y at *; have Hy := Lib.hid hy; clear hy d1 d2 d3 d4
              rw [ha] at ha'
              cases ha'
              have Ho := Lib.hid (ordB_at (ks := (s.map (·.id))) (k := k) (p := p) (x := x1) (y := y) hp (by have := Hx.out; simp [List.getElem?_eq_getElem hlt, this]) (by have := Hy.out; simp [List.getElem?_eq_getElem hpl, this]))
              have hwp : IntKind.i64.wrap ((k : Int) - 1) = (p : Int) := by rw [hp, IntWalk.i64_in _ (by omega)]; omega
              have hk1 : 0 < k := by omega
              have hk2 : (0 : Int) < (k : Int) := by omega
              have hp1 : (0 : Int) ≤ (p : Int) := by omega
              have hp2 : (p : Int) < (s.length : Int) := by omega
              have hp3 : (k : Int) - 1 = (p : Int) := by omega
              have Hp := Lib.hid hp
              clear hp hk0
              go_wp2_with fail
              go_quiet (fail); go_wp2_with fail
              go_meet
              exact ⟨by rw [Ho.out] <;> rfl, _, rfl⟩
          case rest =>
            obtain ⟨hso, n, rfl⟩ := hcut
            rw [hso]
            cases hob : ordB (s.map (·.id)) k
            · rw [hob] at HE
              go_wp2_with fail
              rw [← ha]
              go_roundg (s.length - (k + 1))
              case measure => have := hgk.out; omega
              case rel => exact ⟨k + 1, by go_num, by omega, rfl, zeros_succ hf.out (by rw [HE.out]; rfl), below_drewN hb1' _⟩
            · rw [hob] at HE
              have He := Lib.hid (Hfe.out 7 (by rw [HE.out]; rfl) (by decide))
              go_wp2_with fail
              go_ret
              exact ⟨by rw [He.out]; rfl, below_drewN hb1' _⟩
        · rw [if_pos hpf] at HE
          have hq : (pf != 0) = true := by simpa using hpf
          have He := Lib.hid (Hfe.out pf HE.out hpf)
          clear hpf
          go_wp2_with fail
          go_ret
          exact ⟨by rw [He.out]; rfl, hb1'⟩
      · have hE1 : firstErr (papersE s) s.length = 0 := by
          obtain rfl : k = s.length := by omega
          exact firstErr_zero hf.out
        have HE1 := Lib.hid hE1
        clear hE1
        go_wp2_with fail
        go_ret
        exact ⟨by rw [HE1.out]; rfl, hb⟩
set_option maxRecDepth 100000 in
set_option maxHeartbeats 4000000 in
theorem papersFault_any (s : List Paper) (a : Option Addr) (cap : Nat) (w : World) (hE0 : Env w) (hs : PapersAt w a s) (hsl : s.length ≤ 1000000) (hsm : ∀ p ∈ s, PSmall p) :
    Calls Tryd.prog 12 #[.slice a s.length cap] w (Gives (.int .i64 (papersFault s)) w) := by
  by_cases h100 : 400 < s.length
  · have hv : papersFault s = 2 := by simp [papersFault, h100]
    rw [hv]
    go_enter Tryd.func12, Tryd.ntmps12
    go_wp2_with fail
    go_ret
    exact ⟨rfl, Below.refl _ _⟩
  · have hv : papersFault s = firstErr (papersE s) s.length := by simp [papersFault, h100]
    rw [hv]
    clear hv
    go_enter Tryd.func12, Tryd.ntmps12
    go_wp2_with fail
    go_loopg [11] s.length (fun gk i wr => ∃ k : Nat, i = .int .i64 k ∧ k ≤ s.length ∧ Hid (gk = s.length - k) ∧ Hid (∀ j, j < k → papersE s j = 0) ∧ Below w.heap.size w wr)
    case atStart => exact ⟨0, rfl, by omega, rfl, fun j hj => by omega, Below.refl _ _⟩
    case round =>
      obtain ⟨k, rfl, hk, hgk, hf, hb⟩ := hrel
      by_cases hlt : k < s.length
      · obtain ⟨b, off, ha, c0, c1, c2, c3, c4⟩ := (hs.below hb).1.paper hlt
        have hE : papersE s k = if paperFault s[k] ≠ 0 then paperFault s[k] else if ordB (s.map (·.id)) k then 7 else 0 := by
          unfold papersE; rw [List.getElem?_eq_getElem hlt]
        have HE := Lib.hid hE
        have hmem := List.getElem_mem hlt
        have HP := Lib.hid (fun (w : World) (he : Env w) (hp : PRd w s[k]) => paperFault_any s[k] w he hp (hsm s[k] hmem))
        have hrd := (hs.below hb).2 s[k] hmem
        clear hE hmem
        unfold Paper.agg at HP
        rw [ha]
        generalize hx : s[k] = x at *
        generalize paperFault x = pf at *
        obtain ⟨x1, x2, x3, xau, xto, xa1, xc1, xa2, xc2⟩ := x
        have Hx : Hid (s[k].id = x1) := by rw [hx]; rfl
        clear hx
        simp only at c0 c1 c2 c3 c4 HP
        have hz := hb.size
        have Hfe := Lib.hid (fun (e : Int) he he0 => firstErr_is (f := papersE s) (e := e) hlt hf.out he he0)
        go_wp2_with fail
        refine (HP.out _ ((hE0.below hb).alloc _) (hrd.below ((Below.refl _ _).alloc (Nat.le_refl _) _))).mono ?_
        rintro e w1 ⟨rfl, hb1⟩
        have hz1 := hb1.size
        simp at hz1
        have hT := (Box.new wr 30 #[.string x1, .string x2, .string x3, .slice xa1 xau.length xc1, .slice xa2 xto.length xc2]).below hb1
        have hb1' : Below w.heap.size w w1 := by (repeat' (first | exact Below.refl _ _ | assumption | refine Below.setCell ?_ ?_ _ | refine below_drewN ?_ _ | refine Below.drew ?_ | refine Below.alloc ?_ ?_ _ | (with_reducible refine Below.trans ?_ (Below.mono hb ?_)) | (with_reducible refine Below.trans ?_ (Below.mono hb0 ?_)) | (with_reducible refine Below.trans ?_ (Below.mono hb1 ?_)) | (with_reducible refine Below.trans ?_ (Below.mono hb2 ?_)) | (with_reducible refine Below.trans ?_ (Below.mono hb3 ?_)) | (with_reducible refine Below.trans ?_ (Below.mono hb4 ?_)) | (with_reducible refine Below.trans ?_ (Below.mono hb5 ?_)) | (with_reducible refine Below.trans ?_ (Below.mono hb6 ?_)) | (with_reducible refine Below.trans ?_ (Below.mono hb7 ?_)) | (with_reducible refine Below.trans ?_ (Below.mono hb8 ?_)) | (with_reducible refine Below.trans ?_ (Below.mono hb9 ?_)) | (with_reducible refine Below.trans ?_ (Below.mono hb10 ?_)) | (with_reducible refine Below.trans ?_ (Below.mono hb11 ?_)) | (with_reducible refine Below.trans ?_ (Below.mono hb12 ?_)) | (with_reducible refine Below.trans ?_ (Below.mono hb13 ?_)) | (with_reducible refine Below.trans ?_ (Below.mono hb14 ?_)) | (with_reducible refine Below.trans ?_ (Below.mono hb15 ?_)) | omega | (simp; done) | (simp; omega)))
        clear hb1 hrd
        by_cases hpf : pf = 0
        · rw [if_neg (by simp [hpf])] at HE
          have hq : (pf != 0) = false := by simpa using hpf
          clear hpf
          have hT_l := hT.lt; have hT_0 := hT.cell 0; have hT_1 := hT.cell 1; have hT_2 := hT.cell 2; have hT_3 := hT.cell 3; have hT_4 := hT.cell 4; simp at hT_0 hT_1 hT_2 hT_3 hT_4
          go_upto_region 9 with (fail)
          go_cut [33] (fun v wx => v = .bool (ordB (s.map (·.id)) k) ∧ ∃ n, wx = w1.drewN n)
          case first =>
            by_cases hk0 : k = 0
            · have hd : decide (0 < k) = false := by simp [hk0]
              have hd' : decide ((0 : Int) < (k : Int)) = false := by simp [hk0]
              have ho0 : ordB (s.map (·.id)) k = false := by rw [hk0]; rfl
              have Ho := Lib.hid ho0
              clear hk0 ho0
              go_wp2_with fail
              go_quiet (fail); go_wp2_with fail
              go_meet
              exact ⟨by rw [Ho.out] <;> rfl, _, rfl⟩
            · obtain ⟨p, hp⟩ : ∃ p, k = p + 1 := ⟨k - 1, by omega⟩
              have hpl : p < s.length := by omega
              obtain ⟨b', off', ha', d0, d1, d2, d3, d4⟩ := (hs.below hb1').1.paper hpl; generalize hy : s[p].id = y at *; have Hy := Lib.hid hy; clear hy d1 d2 d3 d4
              rw [ha] at ha'
              cases ha'
              have Ho := Lib.hid (ordB_at (ks := (s.map (·.id))) (k := k) (p := p) (x := x1) (y := y) hp (by have := Hx.out; simp [List.getElem?_eq_getElem hlt, this]) (by have := Hy.out; simp [List.getElem?_eq_getElem hpl, this]))
              have hwp : IntKind.i64.wrap ((k : Int) - 1) = (p : Int) := by rw [hp, IntWalk.i64_in _ (by omega)]; omega
              have hk1 : 0 < k := by omega
              have hk2 : (0 : Int) < (k : Int) := by omega
              have hp1 : (0 : Int) ≤ (p : Int) := by omega
              have hp2 : (p : Int) < (s.length : Int) := by omega
              have hp3 : (k : Int) - 1 = (p : Int) := by omega
              have Hp := Lib.hid hp
              clear hp hk0
              go_wp2_with fail
              go_quiet (fail); go_wp2_with fail
              go_meet
              exact ⟨by rw [Ho.out] <;> rfl, _, rfl⟩
          case rest =>
            obtain ⟨hso, n, rfl⟩ := hcut
            rw [hso]
            cases hob : ordB (s.map (·.id)) k
            · rw [hob] at HE
              go_wp2_with fail
              rw [← ha]
              go_roundg (s.length - (k + 1))
              case measure => have := hgk.out; omega
              case rel => exact ⟨k + 1, by go_num, by omega, rfl, zeros_succ hf.out (by rw [HE.out]; rfl), below_drewN hb1' _⟩
            · rw [hob] at HE
              have He := Lib.hid (Hfe.out 7 (by rw [HE.out]; rfl) (by decide))
              go_wp2_with fail
              go_ret
              exact ⟨by rw [He.out]; rfl, below_drewN hb1' _⟩
        · rw [if_pos hpf] at HE
          have hq : (pf != 0) = true := by simpa using hpf
          have He := Lib.hid (Hfe.out pf HE.out hpf)
          clear hpf
          go_wp2_with fail
          go_ret
          exact ⟨by rw [He.out]; rfl, hb1'⟩
      · have hE1 : firstErr (papersE s) s.length = 0 := by
          obtain rfl : k = s.length := by omega
          exact firstErr_zero hf.out
        have HE1 := Lib.hid hE1
        clear hE1
        go_wp2_with fail
        go_ret
        exact ⟨by rw [HE1.out]; rfl, hb⟩
end Go.Proofs.YtdkenbnfelekgaaDoor
