/- What is wrong with drafts: the reference. -/
import Derived.Test.YtlpknpjfmacemaaGreatDoorTwin2
import Derived.Test.YtlpknpjfmacemaaGreatDoorOver7
/-! What is wrong with drafts: the reference. -/
namespace Go.Proofs.YtlpknpjfmacemaaGreatDoor
open Go.RowKit
set_option linter.unusedVariables false
set_option linter.unusedSimpArgs false

def encD (x : Drf) : Value := .agg #[.string x.1, .string x.2]
set_option maxRecDepth 100000 in
set_option maxHeartbeats 4000000 in
theorem indexDrf_any (l : List Drf) (a : Option Addr) (cap g : Nat) (lb : Array Value) (c : Drf → Bool) (w : World) (eg : ∀ args w, (callFunc g args).run Tryz.prog w = .ok (.enter g args) w) (h : SA w a l) (hlen : l.length ≤ 1000000000) (hc : TestAt encD g lb c l w) :
    Calls Tryz.prog 143 #[.slice a l.length cap, .func (.func g) #[] lb] w (fun e w' => ∃ r : Int, e = .returned (.int .i64 r) ∧ decide (0 ≤ r) = l.any c ∧ Below w.heap.size w w' ∧ r = idxI c l) := by
  have HC := Lib.hid hc
  clear hc
  go_enter Tryz.func143, Tryz.ntmps143
  go_wp2_with fail
  go_loopg [8] l.length (fun gk i wr => ∃ k : Nat, i = .int .i64 k ∧ k ≤ l.length ∧ Hid (gk = l.length - k) ∧ Hid (∀ x ∈ l.take k, c x = false) ∧ Below w.heap.size w wr)
  case atStart => exact ⟨0, rfl, by omega, rfl, fun x hx => (by cases hx), Below.refl _ _⟩
  case round =>
    obtain ⟨k, rfl, hk, hgk, hf, hb⟩ := hrel
    by_cases hlt : k < l.length
    · obtain ⟨b, off, ha, c0, c1⟩ := (h.below hb).drf hlt
      have HCx := Lib.hid (HC.out l[k] (List.getElem_mem hlt) wr hb)
      have Hat := Lib.hid (any_at (c := c) hlt)
      have Htk := Lib.hid (List.take_succ_eq_append_getElem hlt)
      have Hix := Lib.hid (fun h => idxI_at (c := c) hlt h hf.out)
      have Ha := Lib.hid ha
      rw [ha]
      clear ha
      generalize l[k] = x at *
      obtain ⟨x1, x2⟩ := x
      (try simp only at *)
      have hk1 : (0 : Int) ≤ (k : Int) := by omega
      have hk2 : (k : Int) < (l.length : Int) := by omega
      obtain ⟨cx, hcx⟩ : ∃ cx, c ⟨x1, x2⟩ = cx := ⟨_, rfl⟩
      rw [hcx] at HCx Hat Hix
      have Hcx := Lib.hid hcx
      clear hcx
      go_wp2_with fail
      refine HCx.out.mono ?_
      rintro e w1 ⟨rfl, hb1⟩
      have hb1' := below_next hb hb1
      cases cx
      · go_wp2_with fail
        rw [← Ha.out]
        go_roundg (l.length - (k + 1))
        case measure => have := hgk.out; omega
        case rel => exact ⟨k + 1, by go_num, by omega, rfl, by rw [Htk.out]; exact fun x hx => (List.mem_append.1 hx).elim (hf.out x) (fun h => by rw [List.mem_singleton.1 h]; exact Hcx.out), hb1'⟩
      · have Hany := Lib.hid (Hat.out rfl)
        have Hr := Lib.hid (Hix.out rfl)
        go_wp2_with fail
        go_ret
        exact ⟨_, rfl, by rw [Hany.out]; exact decide_eq_true hk1, hb1', Hr.out.symm⟩
    · obtain rfl : k = l.length := by omega
      have Hany := Lib.hid (any_none hf.out)
      have Hr := Lib.hid (idxI_none hf.out)
      go_wp2_with fail
      go_ret
      exact ⟨_, rfl, by rw [Hany.out]; rfl, hb, Hr.out.symm⟩
set_option maxHeartbeats 4000000 in
theorem findDrf_any (l : List Drf) (a : Option Addr) (cap g : Nat) (lb : Array Value) (c : Drf → Bool) (w : World) (eg : ∀ args w, (callFunc g args).run Tryz.prog w = .ok (.enter g args) w) (h : SA w a l) (hlen : l.length ≤ 1000000000) (hc : TestAt encD g lb c l w) :
    Calls Tryz.prog 87 #[.slice a l.length cap, .func (.func g) #[] lb] w (Gives (.bool (l.any c)) w) := by
  have HI := Lib.hid (indexDrf_any l a cap g lb c w eg h hlen hc)
  clear hc
  go_enter Tryz.func87, Tryz.ntmps87
  go_wp2_with fail
  refine HI.out.mono ?_
  rintro e w1 ⟨r, rfl, hr, hb, hri⟩
  clear hri
  go_wp2_with fail
  go_ret
  exact ⟨by rw [← hr] <;> rfl, hb⟩
set_option maxHeartbeats 1000000 in
theorem draftClo_any (p : Drf) (bq : Nat) (x : ByteArray) (w : World) (hc : w.cell? ⟨bq, 0, none⟩ = some (.string x)) :
    Calls Tryz.prog 88 #[encD p, .pointer (some ⟨bq, 0, none⟩)] w (Gives (.bool (decide (p.1 = x))) w) := by
  obtain ⟨x1, x2⟩ := p
  unfold encD
  simp only
  have hlt := cell_lt hc
  go_enter Tryz.func88, Tryz.ntmps88
  go_wp2_with fail
  go_ret
  exact ⟨by simp [toList_beq], by (repeat' (first | exact Below.refl _ _ | assumption | refine Below.setCell ?_ ?_ _ | refine below_drewN ?_ _ | refine Below.drew ?_ | refine Below.alloc ?_ ?_ _ | (with_reducible refine Below.trans ?_ (Below.mono hb ?_)) | (with_reducible refine Below.trans ?_ (Below.mono hb0 ?_)) | (with_reducible refine Below.trans ?_ (Below.mono hb1 ?_)) | (with_reducible refine Below.trans ?_ (Below.mono hb2 ?_)) | (with_reducible refine Below.trans ?_ (Below.mono hb3 ?_)) | (with_reducible refine Below.trans ?_ (Below.mono hb4 ?_)) | (with_reducible refine Below.trans ?_ (Below.mono hb5 ?_)) | (with_reducible refine Below.trans ?_ (Below.mono hb6 ?_)) | (with_reducible refine Below.trans ?_ (Below.mono hb7 ?_)) | (with_reducible refine Below.trans ?_ (Below.mono hb8 ?_)) | (with_reducible refine Below.trans ?_ (Below.mono hb9 ?_)) | (with_reducible refine Below.trans ?_ (Below.mono hb10 ?_)) | (with_reducible refine Below.trans ?_ (Below.mono hb11 ?_)) | (with_reducible refine Below.trans ?_ (Below.mono hb12 ?_)) | (with_reducible refine Below.trans ?_ (Below.mono hb13 ?_)) | (with_reducible refine Below.trans ?_ (Below.mono hb14 ?_)) | (with_reducible refine Below.trans ?_ (Below.mono hb15 ?_)) | omega | (simp; done) | (simp; omega)))⟩
theorem bodyE_nil : bodyE ⟨#[]⟩ = 0 := by
  unfold bodyE
  rw [if_neg (by decide), if_pos (by decide)]
theorem shortE_nil : shortE ⟨#[]⟩ = 0 := by
  unfold shortE
  rw [bodyE_nil, if_neg (by decide), if_neg (by decide)]
theorem pairE_nil (a : ByteArray) : pairE a ⟨#[]⟩ 1 = shortE a := by
  unfold pairE
  rw [shortE_nil]
  by_cases h : shortE a = 0
  · rw [if_neg (fun e => e h), if_neg (by decide), if_neg (by omega), h]
  · rw [if_pos h]
set_option maxRecDepth 100000 in
set_option maxHeartbeats 16000000 in
theorem draftsFault_any (ds : List Drf) (da : Option Addr) (dc : Nat) (least percent : Int) (w : World) (hE : Env w) (hds : SA w da ds) (hn : ds.length ≤ 4) (hdc : ds.length ≤ dc) (hsz : ∀ d ∈ ds, d.1.size ≤ 1000 ∧ d.2.size ≤ 100000) :
    Calls Tryz.prog 34 #[.slice da ds.length dc, .int .i64 least, .int .i64 percent] w (Gives (.int .i64 (draftsE ds least percent)) w) := by
  have HKy := Lib.hid (fun (s : ByteArray) W (h : s.size ≤ 1000) => keyOf_any s W (by omega))
  have HRF := Lib.hid (fun (s : ByteArray) W h1 h2 => runsFault_any s ⟨#[]⟩ 1 W h1 h2 (by decide))
  have HX : Hid (draftsE ds least percent = if firstErr (draftF ds) ds.length ≠ 0 then firstErr (draftF ds) ds.length else if (least < 1 ∨ 100 < least) ∨ percent < 1 ∨ 100 < percent then 1 else 0) := rfl
  generalize draftsE ds least percent = ex at *
  go_enter Tryz.func34, Tryz.ntmps34
  go_wp2_with fail
  go_loopg [15] ds.length (fun gk i wr => ∃ k : Nat, i = .int .i64 k ∧ k ≤ ds.length ∧ Hid (gk = ds.length - k) ∧ Hid (∀ j, j < k → draftF ds j = 0) ∧ Below w.heap.size w wr)
  case atStart => exact ⟨0, rfl, by omega, rfl, fun j hj => by omega, Below.refl _ _⟩
  obtain ⟨k, rfl, hk, hgk, hz0, hbr⟩ := hrel
  have hk1 : (0 : Int) ≤ (k : Int) := by omega
  by_cases hlt : k < ds.length
  · have hk2 : (k : Int) < (ds.length : Int) := by omega
    have hkc : (k : Int) ≤ (dc : Int) := by omega
    have hdr := hds.below hbr
    obtain ⟨db, doff, hda, c0, c1⟩ := hdr.drf hlt
    have Hda := Lib.hid hda
    have hs := hsz ds[k] (List.getElem_mem hlt)
    have Hat := Lib.hid (draftF_at hlt)
    have HErr : Hid (∀ e, draftF ds k = e → e ≠ 0 → ex = e) := fun e h1 h0 => by
      have h2 := firstErr_is hlt hz0.out h1 h0
      rw [HX.out, h2, if_pos h0]
    have Hnext : Hid (draftF ds k = 0 → ∀ j, j < k + 1 → draftF ds j = 0) := fun h => zeros_succ hz0.out h
    have htl : (ds.take k).length = k := by rw [List.length_take]; omega
    have hsaT : SA wr (some ⟨db, doff, none⟩) (ds.take k) := by
      rw [hda] at hdr
      rcases hdr with h | ⟨b, off, e, h⟩
      · rw [h] at hlt; exact absurd hlt (Nat.not_lt_zero _)
      · exact .inr ⟨b, off, e, h.take k⟩
    rw [hda]
    clear hda hdr
    generalize draftF ds k = fk at *
    generalize ds[k] = d at *
    obtain ⟨d1, d2⟩ := d
    simp only at c0 c1 hs
    have hB := Box.new wr 131 #[.string d1, .string d2]
    have hba := hbr.alloc hbr.size (.cells #[.string d1, .string d2] 131)
    have hsaA := hsaT.alloc (.cells #[.string d1, .string d2] 131)
    have HK := Lib.hid (fun W => HKy.out d1 W hs.1)
    have HSd := Lib.hid (fun W h => HRF.out d2 W h hs.2)
    rw [pairE_nil] at HSd
    have Hatv : Hid (draftAt (ds.take k) (d1, d2) = if keyB d1 = false then 5 else if (ds.take k).any (fun x => decide (x.1 = d1)) = true then 6 else shortE d2) := rfl
    clear hbr hsaT
    cases hkb : keyB d1
    · have HO : Hid (ex = 5) := HErr.out _ (by rw [Hat.out, Hatv.out, if_pos hkb]) (by decide)
      rw [hkb] at HK
      go_wp2_with fail
      refine (HK.out _).mono ?_
      rintro e w1 ⟨rfl, hb1⟩
      have hb2 := below_next hba hb1
      go_wp2_with fail
      go_ret
      exact ⟨by rw [HO.out] <;> rfl, hb2⟩
    · rw [hkb] at HK
      have HFd := Lib.hid (fun c W (h : Below (wr.alloc (.cells #[.string d1, .string d2] 131)).heap.size (wr.alloc (.cells #[.string d1, .string d2] 131)) W) => findDrf_any (ds.take k) (some ⟨db, doff, none⟩) c 88 #[.pointer (some ⟨wr.heap.size, 0, none⟩)] (fun x => decide (x.1 = d1)) W (enters_of Tryz.func88 (by kernel_rfl) rfl) (hsaA.below h) (by omega) (fun x hx W' hb' => draftClo_any x wr.heap.size d1 W' (((hB.below h).below hb').cell 0)))
      rw [htl] at HFd
      go_wp2_with fail
      refine (HK.out _).mono ?_
      rintro e w1 ⟨rfl, hb1⟩
      have hba1 := below_next hba hb1
      have hB1 := hB.below hb1
      have hB1_l := hB1.lt; have hB1_0 := hB1.cell 0; have hB1_1 := hB1.cell 1; simp at hB1_0 hB1_1
      go_wp2_with fail
      refine (HFd.out _ _ hb1).mono ?_
      rintro e w2 ⟨rfl, hb2⟩
      have hba2 := below_next hba1 hb2
      have hB2 := hB1.below hb2
      clear HFd hB1 hB1_l hB1_0 hB1_1 hb1
      have hB2_l := hB2.lt; have hB2_0 := hB2.cell 0; have hB2_1 := hB2.cell 1; simp at hB2_0 hB2_1
      cases hin : (ds.take k).any (fun x => decide (x.1 = d1))
      · have Hsh : Hid (fk = shortE d2) := by show _ = _; rw [Hat.out, Hatv.out, if_neg (by rw [hkb]; decide), if_neg (by rw [hin]; decide)]
        clear hin Hatv Hat hkb
        go_wp2_with fail
        refine (HSd.out _ (hE.below hba2)).mono ?_
        rintro e w3 ⟨rfl, hb3⟩
        have hba3 := below_next hba2 hb3
        by_cases h0 : shortE d2 = 0
        · have Hz := Lib.hid (Hnext.out (Hsh.out.trans h0))
          rw [h0]
          clear h0 Hsh HErr
          go_wp2_with fail
          rw [← Hda.out]
          go_roundg (ds.length - (k + 1))
          case measure => have := hgk.out; omega
          case rel => exact ⟨k + 1, by go_num, by omega, rfl, Hz.out, hba3⟩
        · have HO : Hid (ex = shortE d2) := HErr.out _ Hsh.out h0
          have hq : (shortE d2 != 0) = true := by simpa using h0
          clear h0
          go_wp2_with fail
          go_ret
          exact ⟨by rw [HO.out] <;> rfl, hba3⟩
      · have HO : Hid (ex = 6) := HErr.out _ (by rw [Hat.out, Hatv.out, if_neg (by rw [hkb]; decide), if_pos hin]) (by decide)
        clear hin
        go_wp2_with fail
        go_ret
        exact ⟨by rw [HO.out] <;> rfl, hba2⟩
  · obtain rfl : k = ds.length := by omega
    have HX2 := Lib.hid (HX.out.trans (if_neg (by rw [firstErr_zero hz0.out]; decide)))
    clear HX hz0 hgk hk hlt hk1
    by_cases g1 : least < 1
    · have HX3 := Lib.hid (HX2.out.trans (if_pos (.inl (.inl g1))))
      go_wp2_with fail
      go_ret
      exact ⟨by rw [HX3.out] <;> rfl, hbr⟩
    · by_cases g2 : 100 < least
      · have HX3 := Lib.hid (HX2.out.trans (if_pos (.inl (.inr g2))))
        go_wp2_with fail
        go_ret
        exact ⟨by rw [HX3.out] <;> rfl, hbr⟩
      · by_cases g3 : percent < 1
        · have HX3 := Lib.hid (HX2.out.trans (if_pos (.inr (.inl g3))))
          go_wp2_with fail
          go_ret
          exact ⟨by rw [HX3.out] <;> rfl, hbr⟩
        · by_cases g4 : 100 < percent
          · have HX3 := Lib.hid (HX2.out.trans (if_pos (.inr (.inr g4))))
            go_wp2_with fail
            go_ret
            exact ⟨by rw [HX3.out] <;> rfl, hbr⟩
          · have HX3 := Lib.hid (HX2.out.trans (if_neg (by omega)))
            go_wp2_with fail
            go_ret
            exact ⟨by rw [HX3.out] <;> rfl, hbr⟩
end Go.Proofs.YtlpknpjfmacemaaGreatDoor

/-! Drafts that have much in common: the reference. -/
namespace Go.Proofs.YtlpknpjfmacemaaGreatDoor
open Go.RowKit
set_option linter.unusedVariables false
set_option linter.unusedSimpArgs false

set_option maxRecDepth 100000 in
set_option maxHeartbeats 16000000 in
theorem alikeOf_any (ds : List Drf) (da : Option Addr) (dc : Nat) (least percent : Int) (w : World) (hds : SA w da ds) (hn : ds.length ≤ 4) (hsz : ∀ d ∈ ds, d.1.size ≤ 1000 ∧ d.2.size ≤ 100000) (hsh : ∀ d ∈ ds, (wordsS d.2).length ≤ 600) (hp1 : 1 ≤ percent) (hp2 : percent ≤ 100) :
    Calls Tryz.prog 36 #[.slice da ds.length dc, .int .i64 least, .int .i64 percent] w (fun e w' => ∃ a cap, e = .returned (.slice a (sortT (twinsL ds least percent)).length cap) ∧ SA w' a (sortT (twinsL ds least percent)) ∧ Below w.heap.size w w') := by
  have Hsh := Lib.hid hsh
  clear hsh
  go_enter Tryz.func36, Tryz.ntmps36
  go_wp2_with fail
  go_loopg [7, 15] ds.length (fun gk v i wr => ∃ k : Nat, i = .int .i64 k ∧ k ≤ ds.length ∧ Hid (gk = ds.length - k) ∧ Own w.heap.size 79 wr v (twinsTo (ds.take k) ds least percent) ∧ Below w.heap.size w wr)
  case atStart => exact ⟨0, rfl, by omega, rfl, Own.nil _ _ _, Below.refl _ _⟩
  obtain ⟨k, rfl, hk, hgk, hown, hb⟩ := hrel
  have hk1 : (0 : Int) ≤ (k : Int) := by omega
  by_cases hlt : k < ds.length
  · have hk2 : (k : Int) < (ds.length : Int) := by omega
    obtain ⟨db, doff, hda, c0, c1⟩ := (hds.below hb).drf hlt
    have Hda := Lib.hid hda
    rw [hda]
    clear hda
    have hpos := hlt
    have Hsn := Lib.hid (twinsTo_snoc (ds.take k) ds ds[k] least percent)
    rw [← List.take_succ_eq_append_getElem hlt] at Hsn
    have hl1 := twinsTo_le (es := ds.take k) (ds := ds) least percent
    rw [List.length_take] at hl1
    have hl1' : (twinsTo (ds.take k) ds least percent).length ≤ 16 := Nat.le_trans hl1 (Nat.le_trans (Nat.mul_le_mul (Nat.min_le_right _ _) (Nat.le_refl _)) (Nat.mul_le_mul hn hn))
    clear hl1
    have hszX := (hsz ds[k] (List.getElem_mem hlt)).2
    have hshX := Hsh.out ds[k] (List.getElem_mem hlt)
    obtain ⟨T1, hT1⟩ : ∃ T, twinsTo (ds.take (k + 1)) ds least percent = T := ⟨_, rfl⟩
    rw [hT1] at Hsn
    have HT1 := Lib.hid hT1
    clear hT1
    generalize twinsTo (ds.take k) ds least percent = T0 at *
    generalize ds[k] = dx at *
    obtain ⟨x1, x2⟩ := dx
    simp only at c0 c1 hszX hshX
    generalize wr = wo at *
    have hBx := Box.new wo 131 #[.string x1, .string x2]
    have hown1 := hown.alloc (.cells #[.string x1, .string x2] 131)
    have hb1 := hb.alloc hb.size (.cells #[.string x1, .string x2] 131)
    have HNe0 : Hid (∀ j, u7.ownBlock = some j → j ≠ wo.heap.size) := fun j hj e => by have := (hown.lt j hj).2; omega
    clear hown hb
    have Hstart : Hid (T0 ++ twinRow (x1, x2) (ds.take 0) least percent = T0) := List.append_nil _
    go_wp2_with fail
    go_loopg [7, 21] ds.length (fun gm v i wr => ∃ m : Nat, i = .int .i64 m ∧ m ≤ ds.length ∧ Hid (gm = ds.length - m) ∧ Own w.heap.size 79 wr v (T0 ++ twinRow (x1, x2) (ds.take m) least percent) ∧ Below w.heap.size w wr ∧ Box wr wo.heap.size 131 #[.string x1, .string x2] ∧ Hid (∀ j, v.ownBlock = some j → j ≠ wo.heap.size))
    case atStart => exact ⟨0, rfl, by omega, rfl, by rw [Hstart.out]; exact hown1, hb1, hBx, HNe0.out⟩
    clear hown1 hb1 hBx Hstart HNe0
    obtain ⟨m, rfl, hm, hgm, hown, hb, hBx, HNe⟩ := hrel
    have hm1 : (0 : Int) ≤ (m : Int) := by omega
    by_cases hml : m < ds.length
    · have hm2 : (m : Int) < (ds.length : Int) := by omega
      obtain ⟨eb, eoff, hea, d0, d1⟩ := (hds.below hb).drf hml
      obtain ⟨rfl, rfl⟩ : eb = db ∧ eoff = doff := by
        have h := Option.some.inj (hea.symm.trans Hda.out)
        exact ⟨congrArg (·.block) h, congrArg (·.off) h⟩
      clear hea
      have Hsn2 : Hid (T0 ++ twinRow (x1, x2) (ds.take (m + 1)) least percent = (T0 ++ twinRow (x1, x2) (ds.take m) least percent) ++ twinOf (x1, x2) ds[m] least percent) := by
        show _ = _
        rw [List.take_succ_eq_append_getElem hml, twinRow_snoc, List.append_assoc]
      have hl2 := twinRow_len (x1, x2) least percent (ds.take m)
      rw [List.length_take] at hl2
      have hlA : (T0 ++ twinRow (x1, x2) (ds.take m) least percent).length ≤ 20 := by rw [List.length_append]; omega
      clear hl2
      have hszY := (hsz ds[m] (List.getElem_mem hml)).2
      have hshY := Hsh.out ds[m] (List.getElem_mem hml)
      obtain ⟨A2, hA2⟩ : ∃ A, T0 ++ twinRow (x1, x2) (ds.take (m + 1)) least percent = A := ⟨_, rfl⟩
      rw [hA2] at Hsn2
      have HA2 := Lib.hid hA2
      clear hA2
      generalize T0 ++ twinRow (x1, x2) (ds.take m) least percent = A1 at *
      generalize ds[m] = dy at *
      obtain ⟨y1, y2⟩ := dy
      simp only at d0 d1 hszY hshY
      have Htw : Hid (twinOf (x1, x2) (y1, y2) least percent = if Op.bytesLess x1.toList y1.toList = false then [] else if percent * (overP (wordsS x2) (wordsS y2) least).2 ≤ (overP (wordsS x2) (wordsS y2) least).1 * 100 then [(x1, y1, (overP (wordsS x2) (wordsS y2) least).1, (overP (wordsS x2) (wordsS y2) least).2)] else []) := rfl
      generalize twinOf (x1, x2) (y1, y2) least percent = tw at *
      have hok := overP_ok least hshX hshY
      have HOVd := Lib.hid (fun W => overlapOf_any x2 y2 least W hszX hszY hshX hshY)
      generalize overP (wordsS x2) (wordsS y2) least = ov at *
      obtain ⟨f1, f2⟩ := ov
      obtain ⟨hf1, hf2, hf3, hf4⟩ := hok
      simp only at hf1 hf2 hf3 hf4 Htw HOVd
      have hmb := mul_bd (show (0 : Int) ≤ percent by omega) (show percent ≤ 100 by omega) (show (0 : Int) ≤ f2 by omega) hf4
      have hwa : IntKind.i64.wrap (100 * f1) = 100 * f1 := IntWalk.i64_in _ (by omega)
      have hwb : IntKind.i64.wrap (percent * f2) = percent * f2 := IntWalk.i64_in _ (by omega)
      generalize wr = wi at *
      have hBx1 := hBx.alloc (.cells #[.string y1, .string y2] 131)
      have hBy := Box.new wi 131 #[.string y1, .string y2]
      have hown1 := hown.alloc (.cells #[.string y1, .string y2] 131)
      have hb1 := hb.alloc hb.size (.cells #[.string y1, .string y2] 131)
      clear hown hb hBx
      have hBx1_l := hBx1.lt; have hBx1_0 := hBx1.cell 0; have hBx1_1 := hBx1.cell 1; simp at hBx1_0 hBx1_1
      cases hle : Op.bytesLess x1.toList y1.toList
      · have Hsn3 : Hid (A2 = A1) := by show _ = _; rw [Hsn2.out, Htw.out, if_pos hle, List.append_nil]
        clear Htw
        go_wp2_with fail
        go_roundg (ds.length - (m + 1))
        case measure => have := hgm.out; omega
        case rel => exact ⟨m + 1, by go_num, by omega, rfl, by rw [HA2.out, Hsn3.out]; exact hown1, hb1, hBx1, HNe.out⟩
      · have Htw2 := Lib.hid (Htw.out.trans (if_neg (by rw [hle]; decide)))
        clear Htw
        have hBy_l := hBy.lt; have hBy_0 := hBy.cell 0; have hBy_1 := hBy.cell 1; simp at hBy_0 hBy_1
        go_wp2_with fail
        refine (HOVd.out _).mono ?_
        rintro e w2 ⟨rfl, hb2⟩
        have hbz := below_next hb1 hb2
        have hown2 := (hown1.below hb2).alloc (.cells #[.int .i64 f1, .int .i64 f2] 62)
        have hb3 := hbz.alloc hbz.size (.cells #[.int .i64 f1, .int .i64 f2] 62)
        have hX2 := (hBx1.below hb2).alloc (.cells #[.int .i64 f1, .int .i64 f2] 62)
        have hY2 := (hBy.below hb2).alloc (.cells #[.int .i64 f1, .int .i64 f2] 62)
        have hF2 := Box.new w2 62 #[.int .i64 f1, .int .i64 f2]
        clear hown1 hb1 hBx1 hBx1_l hBx1_0 hBx1_1 hBy hBy_l hBy_0 hBy_1 hb2 hle
        have hX2_l := hX2.lt; have hX2_0 := hX2.cell 0; have hX2_1 := hX2.cell 1; simp at hX2_0 hX2_1
        have hY2_l := hY2.lt; have hY2_0 := hY2.cell 0; have hY2_1 := hY2.cell 1; simp at hY2_0 hY2_1
        have hF2_l := hF2.lt; have hF2_0 := hF2.cell 0; have hF2_1 := hF2.cell 1; simp at hF2_0 hF2_1
        by_cases hpc : percent * f2 ≤ f1 * 100
        · have hpd : decide (percent * f2 ≤ 100 * f1) = true := decide_eq_true (by omega)
          have Hsn3 : Hid (A2 = A1 ++ [(x1, y1, f1, f2)]) := by show _ = _; rw [Hsn2.out, Htw2.out, if_pos hpc]
          have HlO := Lib.hid hown2.lt
          have hown3 := hown2.alloc (.cells #[.string x1, .string y1, .int .i64 f1, .int .i64 f2] 79)
          have hb4 := hb3.alloc hb3.size (.cells #[.string x1, .string y1, .int .i64 f1, .int .i64 f2] 79)
          have hX4 := hX2.alloc (.cells #[.string x1, .string y1, .int .i64 f1, .int .i64 f2] 79)
          have hXl := hX2.lt
          have hT4 := Box.newAt (w2.alloc (.cells #[.int .i64 f1, .int .i64 f2] 62)) (w2.heap.size + 1) 79 #[.string x1, .string y1, .int .i64 f1, .int .i64 f2] (by simp)
          clear hown2 hb3 hpc Htw2 Hsn2
          go_wp2_with (at_builtin; refine wpList_append_lie (α := Twin) rfl _ _ 73 rfl 79 48 (.agg #[.string ⟨#[]⟩, .string ⟨#[]⟩, .int .i64 0, .int .i64 0]) Tryz.underlying73 Tryz.infoTwin rfl _ A1 rfl hown3 (x1, y1, f1, f2) _ rfl hT4 (by omega) (by omega) hb4.size ?_; intro g9 cap9 w9 hown9 hg9 hat9)
          have hb9 := hb4.grown hg9 hb4.size (fun j hj => (HlO.out j hj).1)
          have hX9 := hX4.grown hg9 (fun e => HNe.out _ e.symm rfl)
          have HNe9 : Hid (∀ j, (Value.slice (some ⟨g9, 0, none⟩) (A1.length + 1) cap9).ownBlock = some j → j ≠ wo.heap.size) := fun j hj e => by
            cases hj
            rcases hat9 with h9 | h9
            · exact HNe.out _ h9 e
            · have e2 : g9 = wo.heap.size := e
              simp only [World.size_alloc] at h9 hXl
              omega
          rw [← Hsn3.out] at hown9
          (try go_wp2_with fail)
          go_roundg (ds.length - (m + 1))
          case measure => have := hgm.out; omega
          case rel => exact ⟨m + 1, by go_num, by omega, rfl, by rw [HA2.out]; exact hown9, hb9, hX9, HNe9.out⟩
        · have hpd : decide (percent * f2 ≤ 100 * f1) = false := decide_eq_false (by omega)
          have Hsn3 : Hid (A2 = A1) := by show _ = _; rw [Hsn2.out, Htw2.out, if_neg hpc, List.append_nil]
          clear hpc Htw2 Hsn2
          go_wp2_with fail
          go_roundg (ds.length - (m + 1))
          case measure => have := hgm.out; omega
          case rel => exact ⟨m + 1, by go_num, by omega, rfl, by rw [HA2.out, Hsn3.out]; exact hown2, hb3, hX2, HNe.out⟩
    · obtain rfl : m = ds.length := by omega
      rw [List.take_length] at hown
      rw [← Hsn.out, ← HT1.out] at hown
      clear hml hm1
      go_wp2_with fail
      rw [← Hda.out]
      go_roundg (ds.length - (k + 1))
      case measure => have := hgk.out; omega
      case rel => exact ⟨k + 1, by go_num, by omega, rfl, hown, hb⟩
  · obtain rfl : k = ds.length := by omega
    rw [List.take_length] at hown
    have hokL := twinsTo_ok (es := ds) (ds := ds) least percent Hsh.out Hsh.out
    have hlenL := twinsL_len (ds := ds) least percent hn
    unfold twinsL at hlenL
    have HSo := Lib.hid (sortTwins_any _ _ _ _ 89 (enters_of Tryz.func89 (by kernel_rfl) rfl) (fun x y hx hy W => alikeClo_any x y hx hy W) hown hokL hlenL)
    have HlO := Lib.hid hown.lt
    obtain ⟨TL, hTL⟩ : ∃ T, twinsTo ds ds least percent = T := ⟨_, rfl⟩
    rw [hTL] at hown hokL hlenL HSo
    have HTL : Hid (twinsL ds least percent = TL) := hTL
    clear hTL
    clear hown hokL hlenL hlt hk1
    go_wp2_with fail
    refine HSo.out.mono ?_
    rintro e w5 ⟨rfl, a5, cap5, hv5, hsa5, hk5⟩
    have hb5 := belowKp hb hk5 (fun j hj => (HlO.out j hj).1) hb.size
    go_wp2_with fail
    go_ret
    exact ⟨a5, cap5, by rw [HTL.out] <;> rfl, by rw [HTL.out]; exact hsa5, hb5⟩
end Go.Proofs.YtlpknpjfmacemaaGreatDoor
