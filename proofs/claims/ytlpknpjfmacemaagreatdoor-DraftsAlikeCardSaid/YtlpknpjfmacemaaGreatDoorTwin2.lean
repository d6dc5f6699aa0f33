/- Drafts that have much in common: the program. -/
import Derived.Test.YtlpknpjfmacemaaGreatDoorTwin1
namespace Go.Proofs.YtlpknpjfmacemaaGreatDoor
open Go.RowKit
set_option linter.unusedVariables false
set_option linter.unusedSimpArgs false

/-- What is wrong with a draft behind others. -/
def draftAt (es : List Drf) (d : Drf) : Int := if keyB d.1 = false then 5 else if es.any (fun x => decide (x.1 = d.1)) = true then 6 else shortE d.2
def draftF (ds : List Drf) (k : Nat) : Int := match ds[k]? with | some d => draftAt (ds.take k) d | none => 0
def draftsE (ds : List Drf) (least percent : Int) : Int :=
  if firstErr (draftF ds) ds.length ≠ 0 then firstErr (draftF ds) ds.length else if (least < 1 ∨ 100 < least) ∨ percent < 1 ∨ 100 < percent then 1 else 0
theorem draftF_at {ds : List Drf} {k : Nat} (hk : k < ds.length) : draftF ds k = draftAt (ds.take k) ds[k] := by
  unfold draftF
  rw [List.getElem?_eq_getElem hk]
theorem draftAt_zero {es : List Drf} {d : Drf} (h : draftAt es d = 0) : keyB d.1 = true ∧ es.any (fun x => decide (x.1 = d.1)) = false ∧ shortE d.2 = 0 := by
  unfold draftAt at h
  split at h
  · exact absurd h (by decide)
  · split at h
    · exact absurd h (by decide)
    · rename_i h1 h2
      refine ⟨by simpa using h1, ?_, h⟩
      cases hh : es.any (fun x => decide (x.1 = d.1))
      · rfl
      · exact absurd hh h2
theorem drafts_short {ds : List Drf} (h : ∀ j, j < ds.length → draftF ds j = 0) : ∀ d ∈ ds, (wordsS d.2).length ≤ 600 := fun d hd => by
  obtain ⟨j, hj, rfl⟩ := List.getElem_of_mem hd
  have h1 := h j hj
  rw [draftF_at hj] at h1
  exact shortE_len (draftAt_zero h1).2.2

/-- The map of a draft's words. -/
def WEnt (es : List (ByteArray × Value)) (ds : List Drf) (w : World) : Prop :=
  (∀ id, (mget es id).isSome = ds.any (fun d => decide (d.1 = id))) ∧ ∀ d ∈ ds, ∃ a c, mget es d.1 = some (.slice a (wordsS d.2).length c) ∧ SA w a (wordsS d.2)
theorem WEnt.nil (w : World) : WEnt [] [] w := ⟨fun id => rfl, fun d hd => by cases hd⟩
theorem WEnt.below {es : List (ByteArray × Value)} {ds : List Drf} {w w' : World} (h : WEnt es ds w) (hb : Below w.heap.size w w') : WEnt es ds w' :=
  ⟨h.1, fun d hd => by
    obtain ⟨a, c, h1, h2⟩ := h.2 d hd
    exact ⟨a, c, h1, h2.below hb⟩⟩
theorem SA.mapRow {α : Type} [Cel α] {w w' : World} {a : Option Addr} {l : List α} {b : Nat} {es : List (ByteArray × Value)} (h : SA w a l) (hm : MBox w b es) (hg : w.grownBy w' (some b)) : SA w' a l := by
  rcases h with h | ⟨b', off, rfl, h⟩
  · exact .inl h
  · by_cases hl : l = []
    · exact .inl hl
    · refine .inr ⟨b', off, rfl, h.same (hg.block b' (h.lt hl) ?_)⟩
      intro e
      cases e
      obtain ⟨e1, c1, h1, _⟩ := hm
      cases l with
      | nil => exact hl rfl
      | cons x r =>
        have h0 := h 0 0 x rfl Cel.pos
        have hx := Cel.len x
        have hp := Cel.pos (α := α)
        rw [List.getElem?_eq_getElem (by omega)] at h0
        simp [World.cell?, h1] at h0
theorem WEnt.store {es : List (ByteArray × Value)} {ds : List Drf} {w w' : World} {b : Nat} (h : WEnt es ds w) (hm : MBox w b es) (hg : w.grownBy w' (some b)) {d : Drf} {a : Option Addr} {c : Nat} (hnew : ds.any (fun x => decide (x.1 = d.1)) = false) (hs : SA w a (wordsS d.2)) :
    WEnt (mput es d.1 (.slice a (wordsS d.2).length c)) (ds ++ [d]) w' := by
  refine ⟨fun id => ?_, fun x hx => ?_⟩
  · rw [mget_mput, List.any_append]
    by_cases e : d.1 = id
    · rw [if_pos e]; simp [e]
    · rw [if_neg e, h.1]; simp [e]
  · rw [mget_mput]
    rcases List.mem_append.1 hx with hx | hx
    · have hne : d.1 ≠ x.1 := fun e => by
        have hy : ds.any (fun x => decide (x.1 = d.1)) = true := List.any_eq_true.2 ⟨x, hx, decide_eq_true e.symm⟩
        rw [hnew] at hy
        cases hy
      obtain ⟨a', c', h1, h2⟩ := h.2 x hx
      exact ⟨a', c', by rw [if_neg hne]; exact h1, h2.mapRow hm hg⟩
    · rw [List.mem_singleton] at hx
      subst hx
      exact ⟨a, c, by rw [if_pos rfl], hs.mapRow hm hg⟩
theorem mul_bd {a b A B : Int} (h1 : 0 ≤ a) (h2 : a ≤ A) (h3 : 0 ≤ b) (h4 : b ≤ B) : 0 ≤ a * b ∧ a * b ≤ A * B :=
  ⟨Int.mul_nonneg h1 h3, Int.mul_le_mul h2 h4 h3 (by omega)⟩
theorem Tryz.infoTwin : (Tryz.prog.info? 79).map (fun i => (i.zero, i.size, i.bytes)) = some (some (.agg #[.string ⟨#[]⟩, .string ⟨#[]⟩, .int .i64 0, .int .i64 0]), 4, 48) := by kernel_rfl
theorem wzeroS (w : World) : (zeroValue 27).run Tryz.prog w = .ok (.slice none 0 0) w := Tryz.zeroValue27 w

set_option maxRecDepth 100000 in
set_option maxHeartbeats 16000000 in
theorem alike_any (ds : List Drf) (da : Option Addr) (dc : Nat) (least percent : Int) (w : World) (hE : Env w) (hds : SA w da ds) (hn : ds.length ≤ 4) (hsz : ∀ d ∈ ds, d.1.size ≤ 1000 ∧ d.2.size ≤ 100000) :
    Calls Tryz.prog 33 #[.slice da ds.length dc, .int .i64 least, .int .i64 percent] w (fun e w' => Below w.heap.size w w' ∧ ((draftsE ds least percent ≠ 0 ∧ e = .returned (.tuple #[.slice none 0 0, .int .i64 (draftsE ds least percent)])) ∨
      (draftsE ds least percent = 0 ∧ ∃ a cap, e = .returned (.tuple #[.slice a (sortT (twinsL ds least percent)).length cap, .int .i64 0]) ∧ SA w' a (sortT (twinsL ds least percent))))) := by
  have hmm := @run_makeMap Tryz.prog
  have HKy := Lib.hid (fun (s : ByteArray) W (h : s.size ≤ 1000) => isKey_any s W (by omega))
  have HSW := Lib.hid (fun (s : ByteArray) W h1 h2 => shortWords_any s W h1 h2)
  have HX : Hid (draftsE ds least percent = if firstErr (draftF ds) ds.length ≠ 0 then firstErr (draftF ds) ds.length else if (least < 1 ∨ 100 < least) ∨ percent < 1 ∨ 100 < percent then 1 else 0) := rfl
  generalize draftsE ds least percent = ex at *
  have Hds := Lib.hid hds
  have hbase : Below w.heap.size w (w.alloc (.map #[] 0)) := (Below.refl _ _).alloc (Nat.le_refl _) _
  go_enter Tryz.func33, Tryz.ntmps33
  go_wp2_with fail
  go_loopg [27] ds.length (fun gk i wr => ∃ (k : Nat) (es : List (ByteArray × Value)), i = .int .i64 k ∧ k ≤ ds.length ∧ Hid (gk = ds.length - k) ∧ MBox wr w.heap.size es ∧ Hid (WEnt es (ds.take k) wr) ∧ Hid (∀ j, j < k → draftF ds j = 0) ∧ Below w.heap.size w wr)
  case atStart => exact ⟨0, [], rfl, by omega, rfl, MBox.new _, WEnt.nil _, fun j hj => by omega, hbase⟩
  obtain ⟨k, es, rfl, hk, hgk, hM, hW, hz0, hbr⟩ := hrel
  clear hbase
  have hk1 : (0 : Int) ≤ (k : Int) := by omega
  by_cases hlt : k < ds.length
  · have hk2 : (k : Int) < (ds.length : Int) := by omega
    obtain ⟨db, doff, hda, c0, c1⟩ := (Hds.out.below hbr).drf hlt
    have Hda := Lib.hid hda
    rw [hda]
    clear hda
    have hs := hsz ds[k] (List.getElem_mem hlt)
    have Hat := Lib.hid (draftF_at hlt)
    have HErr : Hid (∀ e, draftF ds k = e → e ≠ 0 → ex = e) := fun e h1 h0 => by
      have h2 := firstErr_is hlt hz0.out h1 h0
      rw [HX.out, h2, if_pos h0]
    have Hnext : Hid (draftF ds k = 0 → ∀ j, j < k + 1 → draftF ds j = 0) := fun h => zeros_succ hz0.out h
    have Htk := Lib.hid (List.take_succ_eq_append_getElem hlt)
    generalize draftF ds k = fk at *
    generalize ds[k] = d at *
    obtain ⟨d1, d2⟩ := d
    simp only at c0 c1 hs
    have Hin := Lib.hid (hW.out.1 d1)
    have hB := Box.new wr 131 #[.string d1, .string d2]
    have hMa := hM.alloc (.cells #[.string d1, .string d2] 131)
    have hba := hbr.alloc hbr.size (.cells #[.string d1, .string d2] 131)
    have HK := Lib.hid (fun W => HKy.out d1 W hs.1)
    have HSd := Lib.hid (fun W h => HSW.out d2 W h hs.2)
    have hlk := hMa.look Tryz.underlying132 Tryz.underlying9 _ wzeroS d1 true
    have Hatv : Hid (draftAt (ds.take k) (d1, d2) = if keyB d1 = false then 5 else if (ds.take k).any (fun x => decide (x.1 = d1)) = true then 6 else shortE d2) := rfl
    unfold looked at hlk
    simp only [if_true] at hlk
    rw [Hin.out] at hlk
    obtain ⟨vv, hvv⟩ : ∃ vv, (mget es d1).getD (.slice none 0 0) = vv := ⟨_, rfl⟩
    rw [hvv] at hlk
    clear hvv
    have hWa := Lib.hid (hW.out.below ((Below.refl _ _).alloc (Nat.le_refl _) (.cells #[.string d1, .string d2] 131)))
    clear hM hbr hW
    cases hkb : keyB d1
    · have HO : Hid (ex = 5) := HErr.out _ (by rw [Hat.out, Hatv.out, if_pos hkb]) (by decide)
      rw [hkb] at HK
      go_wp2_with fail
      refine (HK.out _).mono ?_
      rintro e w1 ⟨rfl, rfl⟩
      go_wp2_with fail
      go_ret2
      exact ⟨hba, .inl ⟨by rw [HO.out]; decide, by rw [HO.out] <;> rfl⟩⟩
    · rw [hkb] at HK
      cases hin : (ds.take k).any (fun x => decide (x.1 = d1))
      · rw [hin] at hlk
        have Hsh : Hid (fk = shortE d2) := by show _ = _; rw [Hat.out, Hatv.out, if_neg (by rw [hkb]; decide), if_neg (by rw [hin]; decide)]
        have Hnew := Lib.hid hin
        clear hin Hatv Hat hkb
        go_wp2_with fail
        refine (HK.out _).mono ?_
        rintro e w1 ⟨rfl, rfl⟩
        go_wp2_with fail
        refine (HSd.out _ (hE.below hba)).mono ?_
        rintro e w2 ⟨hb2, hcase⟩
        have hba2 := below_next hba hb2
        rcases hcase with ⟨hne, rfl⟩ | ⟨h0, xa, xc, rfl, hxa⟩
        · have HO : Hid (ex = shortE d2) := HErr.out _ Hsh.out hne
          have hq : (shortE d2 != 0) = true := by simpa using hne
          have Hne := Lib.hid hne
          clear hne
          go_wp2_with fail
          go_ret2
          exact ⟨hba2, .inl ⟨by rw [HO.out]; exact Hne.out, by rw [HO.out] <;> rfl⟩⟩
        · have Hz := Lib.hid (Hnext.out (Hsh.out.trans h0))
          have hM2 := hMa.below hb2
          have hB2 := hB.below hb2
          have hW2 := Lib.hid (hWa.out.below hb2)
          have hzw := hba2.size
          clear h0 Hsh HErr hlk hMa hWa hB hba
          generalize hwl : wordsS d2 = wl at *
          have hB2_l := hB2.lt; have hB2_0 := hB2.cell 0; have hB2_1 := hB2.cell 1; simp at hB2_0 hB2_1
          go_wp2_with (at_mapUpdate; refine wpList_mapUpdate_box rfl _ _ _ 132 rfl _ _ Tryz.underlying132 Tryz.underlying9 w.heap.size es rfl hM2 d1 rfl (.slice xa wl.length xc) rfl ?_; intro W5 hM5 hg5 hs5)
          have hb5 : Below w.heap.size w W5 := hba2.grown hg5 hzw (by rintro j hj; cases hj; omega)
          have hW5 : WEnt (mput es d1 (.slice xa wl.length xc)) (ds.take k ++ [(d1, d2)]) W5 := by rw [← hwl] at hxa ⊢; exact hW2.out.store hM2 hg5 (d := (d1, d2)) Hnew.out hxa
          rw [← Hda.out]
          go_roundg (ds.length - (k + 1))
          case measure => have := hgk.out; omega
          case rel => exact ⟨k + 1, _, by go_num, by omega, rfl, hM5, by rw [Htk.out]; exact hW5, Hz.out, hb5⟩
      · rw [hin] at hlk
        have HO : Hid (ex = 6) := HErr.out _ (by rw [Hat.out, Hatv.out, if_neg (by rw [hkb]; decide), if_pos hin]) (by decide)
        clear hin
        go_wp2_with fail
        refine (HK.out _).mono ?_
        rintro e w1 ⟨rfl, rfl⟩
        go_wp2_with fail
        go_ret2
        exact ⟨hba, .inl ⟨by rw [HO.out]; decide, by rw [HO.out] <;> rfl⟩⟩
  · obtain rfl : k = ds.length := by omega
    rw [List.take_length] at hW
    have HX2 := Lib.hid (HX.out.trans (if_neg (by rw [firstErr_zero hz0.out]; decide)))
    have Hsh := Lib.hid (drafts_short hz0.out)
    clear HX hz0 hgk hk hlt hk1
    by_cases h1 : least < 1 ∨ 100 < least
    · have HX3 := Lib.hid (HX2.out.trans (if_pos (.inl h1)))
      go_wp2_with fail
      refine (outside_yes least 1 100 _ h1).mono ?_
      rintro e w3 ⟨rfl, rfl⟩
      go_wp2_with fail
      go_ret2
      exact ⟨hbr, .inl ⟨by rw [HX3.out]; decide, by rw [HX3.out] <;> rfl⟩⟩
    · by_cases h2 : percent < 1 ∨ 100 < percent
      · have HX3 := Lib.hid (HX2.out.trans (if_pos (.inr h2)))
        go_wp2_with fail
        refine (outside_no least 1 100 _ (by omega) (by omega)).mono ?_
        rintro e w3 ⟨rfl, rfl⟩
        go_wp2_with fail
        refine (outside_yes percent 1 100 _ h2).mono ?_
        rintro e w3 ⟨rfl, rfl⟩
        go_wp2_with fail
        go_ret2
        exact ⟨hbr, .inl ⟨by rw [HX3.out]; decide, by rw [HX3.out] <;> rfl⟩⟩
      · have HX3 := Lib.hid (HX2.out.trans (if_neg (by omega)))
        clear HX2
        have HLK : Hid (∀ d ∈ ds, ∃ a c, SA wr a (wordsS d.2) ∧ ∀ W, Below wr.heap.size wr W → (Instr.lookup 132 (.map (some w.heap.size)) (.string d.1) false).run Tryz.prog W = .ok (.slice a (wordsS d.2).length c) W) := fun d hd => by
          obtain ⟨a, c, e1, e2⟩ := hW.out.2 d hd
          refine ⟨a, c, e2, fun W hb => ?_⟩
          rw [(hM.below hb).look Tryz.underlying132 Tryz.underlying9 _ wzeroS d.1 false]
          unfold looked
          simp only [Bool.false_eq_true, if_false, e1, Option.getD_some]
        have HOV := Lib.hid (fun xa ya xc yc (x y : List ByteArray) W a b c d => overlapP_any xa ya xc yc x y least W a b c d)
        have hdsW := hds.below hbr
        clear hds hW hM
        generalize wr = W1 at *
        go_wp2_with fail
        refine (outside_no least 1 100 _ (by omega) (by omega)).mono ?_
        rintro e w3 ⟨rfl, rfl⟩
        go_wp2_with fail
        refine (outside_no percent 1 100 _ (by omega) (by omega)).mono ?_
        rintro e w3 ⟨rfl, rfl⟩
        go_wp2_with fail
        go_loopg [15, 65] ds.length (fun gk v i wr => ∃ k : Nat, i = .int .i64 k ∧ k ≤ ds.length ∧ Hid (gk = ds.length - k) ∧ Own W1.heap.size 79 wr v (twinsTo (ds.take k) ds least percent) ∧ Below W1.heap.size W1 wr)
        case atStart => exact ⟨0, rfl, by omega, rfl, Own.nil _ _ _, Below.refl _ _⟩
        obtain ⟨k, rfl, hk, hgk, hown, hb⟩ := hrel
        have hk1 : (0 : Int) ≤ (k : Int) := by omega
        by_cases hlt : k < ds.length
        · have hk2 : (k : Int) < (ds.length : Int) := by omega
          obtain ⟨db, doff, hda, c0, c1⟩ := (hdsW.below hb).drf hlt
          have Hda := Lib.hid hda
          rw [hda]
          clear hda
          have hpos := hlt
          have Hsn := Lib.hid (twinsTo_snoc (ds.take k) ds ds[k] least percent)
          rw [← List.take_succ_eq_append_getElem hlt] at Hsn
          have hl1 := twinsTo_le (es := ds.take k) (ds := ds) least percent
          rw [List.length_take] at hl1
          have hl1' : (twinsTo (ds.take k) ds least percent).length ≤ 16 := Nat.le_trans hl1 (Nat.le_trans (Nat.mul_le_mul (Nat.min_le_right _ _) (Nat.le_refl _)) (Nat.mul_le_mul hn hn))
          clear hl1
          have hlkX := HLK.out ds[k] (List.getElem_mem hlt)
          have hshX := Hsh.out ds[k] (List.getElem_mem hlt)
          obtain ⟨T1, hT1⟩ : ∃ T, twinsTo (ds.take (k + 1)) ds least percent = T := ⟨_, rfl⟩
          rw [hT1] at Hsn
          have HT1 := Lib.hid hT1
          clear hT1
          generalize twinsTo (ds.take k) ds least percent = T0 at *
          generalize ds[k] = dx at *
          obtain ⟨x1, x2⟩ := dx
          simp only at c0 c1 hlkX hshX
          obtain ⟨xa, xc, hxsa, hxlk⟩ := hlkX
          have HXL := Lib.hid hxlk
          clear hxlk
          generalize wr = wo at *
          have hBx := Box.new wo 131 #[.string x1, .string x2]
          have hown1 := hown.alloc (.cells #[.string x1, .string x2] 131)
          have hb1 := hb.alloc hb.size (.cells #[.string x1, .string x2] 131)
          have HNe0 : Hid (∀ j, u15.ownBlock = some j → j ≠ wo.heap.size) := fun j hj e => by have := (hown.lt j hj).2; omega
          clear hown hb
          have Hstart : Hid (T0 ++ twinRow (x1, x2) (ds.take 0) least percent = T0) := List.append_nil _
          go_wp2_with fail
          go_loopg [15, 71] ds.length (fun gm v i wr => ∃ m : Nat, i = .int .i64 m ∧ m ≤ ds.length ∧ Hid (gm = ds.length - m) ∧ Own W1.heap.size 79 wr v (T0 ++ twinRow (x1, x2) (ds.take m) least percent) ∧ Below W1.heap.size W1 wr ∧ Box wr wo.heap.size 131 #[.string x1, .string x2] ∧ Hid (∀ j, v.ownBlock = some j → j ≠ wo.heap.size))
          case atStart => exact ⟨0, rfl, by omega, rfl, by rw [Hstart.out]; exact hown1, hb1, hBx, HNe0.out⟩
          clear hown1 hb1 hBx Hstart HNe0
          obtain ⟨m, rfl, hm, hgm, hown, hb, hBx, HNe⟩ := hrel
          have hm1 : (0 : Int) ≤ (m : Int) := by omega
          by_cases hml : m < ds.length
          · have hm2 : (m : Int) < (ds.length : Int) := by omega
            obtain ⟨eb, eoff, hea, d0, d1⟩ := (hdsW.below hb).drf hml
            obtain ⟨rfl, rfl⟩ : eb = db ∧ eoff = doff := by
              have h := Option.some.inj (hea.symm.trans Hda.out)
              exact ⟨congrArg (·.block) h, congrArg (·.off) h⟩
            clear hea
            have Hsn2 : Hid (T0 ++ twinRow (x1, x2) (ds.take (m + 1)) least percent = (T0 ++ twinRow (x1, x2) (ds.take m) least percent) ++ twinOf (x1, x2) ds[m] least percent) := by
              show _ = _
              rw [List.take_succ_eq_append_getElem hml, twinRow_snoc, List.append_assoc]
            have hl2 := twinRow_len (x1, x2) least percent (ds.take m)
            rw [List.length_take] at hl2
            have hlA : (T0 ++ twinRow (x1, x2) (ds.take m) least percent).length ≤ 20 := by rw [List.length_append]; omega
            clear hl2
            have hlkY := HLK.out ds[m] (List.getElem_mem hml)
            have hshY := Hsh.out ds[m] (List.getElem_mem hml)
            obtain ⟨A2, hA2⟩ : ∃ A, T0 ++ twinRow (x1, x2) (ds.take (m + 1)) least percent = A := ⟨_, rfl⟩
            rw [hA2] at Hsn2
            have HA2 := Lib.hid hA2
            clear hA2
            generalize T0 ++ twinRow (x1, x2) (ds.take m) least percent = A1 at *
            generalize ds[m] = dy at *
            obtain ⟨y1, y2⟩ := dy
            simp only at d0 d1 hlkY hshY
            obtain ⟨ya, yc, hysa, hylk⟩ := hlkY
            have HYL := Lib.hid hylk
            clear hylk
            have Htw : Hid (twinOf (x1, x2) (y1, y2) least percent = if Op.bytesLess x1.toList y1.toList = false then [] else if percent * (overP (wordsS x2) (wordsS y2) least).2 ≤ (overP (wordsS x2) (wordsS y2) least).1 * 100 then [(x1, y1, (overP (wordsS x2) (wordsS y2) least).1, (overP (wordsS x2) (wordsS y2) least).2)] else []) := rfl
            generalize twinOf (x1, x2) (y1, y2) least percent = tw at *
            have hok := overP_ok least hshX hshY
            have HOVd := Lib.hid (fun W a b => HOV.out xa ya xc yc (wordsS x2) (wordsS y2) W a b hshX hshY)
            rw [overV_eq] at HOVd
            generalize overP (wordsS x2) (wordsS y2) least = ov at *
            obtain ⟨f1, f2⟩ := ov
            obtain ⟨hf1, hf2, hf3, hf4⟩ := hok
            simp only at hf1 hf2 hf3 hf4 Htw HOVd
            have hmb := mul_bd (show (0 : Int) ≤ percent by omega) (show percent ≤ 100 by omega) (show (0 : Int) ≤ f2 by omega) hf4
            have hwa : IntKind.i64.wrap (f1 * 100) = f1 * 100 := IntWalk.i64_in _ (by omega)
            have hwb : IntKind.i64.wrap (percent * f2) = percent * f2 := IntWalk.i64_in _ (by omega)
            generalize wordsS x2 = wx at *
            generalize wordsS y2 = wy at *
            generalize wr = wi at *
            have hBx1 := hBx.alloc (.cells #[.string y1, .string y2] 131)
            have hBy := Box.new wi 131 #[.string y1, .string y2]
            have hown1 := hown.alloc (.cells #[.string y1, .string y2] 131)
            have hb1 := hb.alloc hb.size (.cells #[.string y1, .string y2] 131)
            clear hown hb hBx
            have hBx1_l := hBx1.lt; have hBx1_0 := hBx1.cell 0; have hBx1_1 := hBx1.cell 1; simp at hBx1_0 hBx1_1
            cases hle : Op.bytesLess x1.toList y1.toList
            · have Hsn3 : Hid (A2 = A1) := by show _ = _; rw [Hsn2.out, Htw.out, if_pos hle, List.append_nil]
              clear Htw
              go_wp2_with fail
              go_roundg (ds.length - (m + 1))
              case measure => have := hgm.out; omega
              case rel => exact ⟨m + 1, by go_num, by omega, rfl, by rw [HA2.out, Hsn3.out]; exact hown1, hb1, hBx1, HNe.out⟩
            · have Htw2 := Lib.hid (Htw.out.trans (if_neg (by rw [hle]; decide)))
              have hlx1 := HXL.out (wi.alloc (.cells #[.string y1, .string y2] 131)) hb1
              have hly1 := HYL.out (wi.alloc (.cells #[.string y1, .string y2] 131)) hb1
              clear Htw
              have hBy_l := hBy.lt; have hBy_0 := hBy.cell 0; have hBy_1 := hBy.cell 1; simp at hBy_0 hBy_1
              go_wp2_with fail
              refine (HOVd.out _ (hxsa.below hb1) (hysa.below hb1)).mono ?_
              rintro e w2 ⟨rfl, hb2⟩
              have hbz := below_next hb1 hb2
              have hown2 := (hown1.below hb2).alloc (.cells #[.int .i64 f1, .int .i64 f2] 62)
              have hb3 := hbz.alloc hbz.size (.cells #[.int .i64 f1, .int .i64 f2] 62)
              have hX2 := (hBx1.below hb2).alloc (.cells #[.int .i64 f1, .int .i64 f2] 62)
              have hY2 := (hBy.below hb2).alloc (.cells #[.int .i64 f1, .int .i64 f2] 62)
              have hF2 := Box.new w2 62 #[.int .i64 f1, .int .i64 f2]
              clear hlx1 hly1 hown1 hb1 hBx1 hBx1_l hBx1_0 hBx1_1 hBy hBy_l hBy_0 hBy_1 hb2 hle
              have hX2_l := hX2.lt; have hX2_0 := hX2.cell 0; have hX2_1 := hX2.cell 1; simp at hX2_0 hX2_1
              have hY2_l := hY2.lt; have hY2_0 := hY2.cell 0; have hY2_1 := hY2.cell 1; simp at hY2_0 hY2_1
              have hF2_l := hF2.lt; have hF2_0 := hF2.cell 0; have hF2_1 := hF2.cell 1; simp at hF2_0 hF2_1
              by_cases hpc : percent * f2 ≤ f1 * 100
              · have hpd : decide (percent * f2 ≤ f1 * 100) = true := decide_eq_true hpc
                have Hsn3 : Hid (A2 = A1 ++ [(x1, y1, f1, f2)]) := by show _ = _; rw [Hsn2.out, Htw2.out, if_pos hpc]
                have HlO := Lib.hid hown2.lt
                have hown3 := hown2.alloc (.cells #[.string x1, .string y1, .int .i64 f1, .int .i64 f2] 79)
                have hb4 := hb3.alloc hb3.size (.cells #[.string x1, .string y1, .int .i64 f1, .int .i64 f2] 79)
                have hX4 := hX2.alloc (.cells #[.string x1, .string y1, .int .i64 f1, .int .i64 f2] 79)
                have hXl := hX2.lt
                have hT4 := Box.newAt (w2.alloc (.cells #[.int .i64 f1, .int .i64 f2] 62)) (w2.heap.size + 1) 79 #[.string x1, .string y1, .int .i64 f1, .int .i64 f2] (by simp)
                clear hown2 hb3 hpc Htw2 Hsn2
                go_wp2_with (at_builtin; refine wpList_append_lie (α := Twin) rfl _ _ 73 rfl 79 48 (.agg #[.string ⟨#[]⟩, .string ⟨#[]⟩, .int .i64 0, .int .i64 0]) Tryz.underlying73 Tryz.infoTwin rfl _ A1 rfl hown3 (x1, y1, f1, f2) _ rfl hT4 (by omega) (by omega) hb4.size ?_; intro g9 cap9 w9 hown9 hg9 hat9)
                have hb9 := hb4.grown hg9 hb4.size (fun j hj => (HlO.out j hj).1)
                have hX9 := hX4.grown hg9 (fun e => HNe.out _ e.symm rfl)
                have HNe9 : Hid (∀ j, (Value.slice (some ⟨g9, 0, none⟩) (A1.length + 1) cap9).ownBlock = some j → j ≠ wo.heap.size) := fun j hj e => by
                  cases hj
                  rcases hat9 with h9 | h9
                  · exact HNe.out _ h9 e
                  · have e2 : g9 = wo.heap.size := e
                    simp only [World.size_alloc] at h9 hXl
                    omega
                rw [← Hsn3.out] at hown9
                (try go_wp2_with fail)
                go_roundg (ds.length - (m + 1))
                case measure => have := hgm.out; omega
                case rel => exact ⟨m + 1, by go_num, by omega, rfl, by rw [HA2.out]; exact hown9, hb9, hX9, HNe9.out⟩
              · have hpd : decide (percent * f2 ≤ f1 * 100) = false := decide_eq_false hpc
                have Hsn3 : Hid (A2 = A1) := by show _ = _; rw [Hsn2.out, Htw2.out, if_neg hpc, List.append_nil]
                clear hpc Htw2 Hsn2
                go_wp2_with fail
                go_roundg (ds.length - (m + 1))
                case measure => have := hgm.out; omega
                case rel => exact ⟨m + 1, by go_num, by omega, rfl, by rw [HA2.out, Hsn3.out]; exact hown2, hb3, hX2, HNe.out⟩
          · obtain rfl : m = ds.length := by omega
            rw [List.take_length] at hown
            rw [← Hsn.out, ← HT1.out] at hown
            clear hml hm1
            go_wp2_with fail
            rw [← Hda.out]
            go_roundg (ds.length - (k + 1))
            case measure => have := hgk.out; omega
            case rel => exact ⟨k + 1, by go_num, by omega, rfl, hown, hb⟩
        · obtain rfl : k = ds.length := by omega
          rw [List.take_length] at hown
          have hokL := twinsTo_ok (es := ds) (ds := ds) least percent Hsh.out Hsh.out
          have hlenL := twinsL_len (ds := ds) least percent hn
          unfold twinsL at hlenL
          have HSo := Lib.hid (sortTwins_any _ _ _ _ 85 (enters_of Tryz.func85 (by kernel_rfl) rfl) (fun x y hx hy W => compareTwins_any x y hx hy W) hown hokL hlenL)
          have HlO := Lib.hid hown.lt
          obtain ⟨TL, hTL⟩ : ∃ T, twinsTo ds ds least percent = T := ⟨_, rfl⟩
          rw [hTL] at hown hokL hlenL HSo
          have HTL : Hid (twinsL ds least percent = TL) := hTL
          clear hTL
          clear hown hokL hlenL hlt hk1
          go_wp2_with fail
          refine HSo.out.mono ?_
          rintro e w5 ⟨rfl, a5, cap5, hv5, hsa5, hk5⟩
          have hb5 := belowKp (hbr.trans (hb.mono hbr.size)) hk5 (fun j hj => by have := (HlO.out j hj).1; have := hbr.size; omega) (by have := hb.size; have := hbr.size; omega)
          go_wp2_with fail
          go_ret2
          exact ⟨hb5, .inr ⟨HX3.out, a5, cap5, by rw [HTL.out] <;> rfl, by rw [HTL.out]; exact hsa5⟩⟩
end Go.Proofs.YtlpknpjfmacemaaGreatDoor
