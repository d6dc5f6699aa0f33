/- What a person hears at best: the reference. -/
import Derived.Test.YtaecdhdnjmckpaaGreatDoorAgd2
namespace Go.Proofs.YtaecdhdnjmckpaaGreatDoor
open Go.RowKit
set_option linter.unusedVariables false
set_option linter.unusedSimpArgs false

set_option maxRecDepth 100000 in
set_option maxHeartbeats 8000000 in
theorem agendaOf_any (g : Grd) (p : List Ses) (pa : Option Addr) (pc : Nat) (who : ByteArray) (w : World) (hg : GRd w g) (hz : GSm g) (hp : PRg w pa p) (hpl : p.length ≤ 1000) (hpo : ∀ s ∈ p, s.papers.length ≤ 1000) :
  Calls Tryz.prog 33 #[g.agg, .slice pa p.length pc, .string who] w (AgdRes g p who (papR g p) w) := by
 have HIX : Hid (∀ W bq, Below w.heap.size w W → W.cell? ⟨bq, 0, none⟩ = some (.string who) → Calls Tryz.prog 87 #[.slice g.wa g.wishes.length g.wc, .func (.func 96) #[] #[.pointer (some ⟨bq, 0, none⟩)]] W (fun e w' => ∃ r : Int, e = .returned (.int .i64 r) ∧ decide (0 ≤ r) = g.wishes.any (fun x => decide (x.person = who)) ∧ Below W.heap.size W w' ∧ r = wishOf g who)) := fun W bq h hc =>
  indexWsh_any g.wishes g.wa g.wc 96 #[.pointer (some ⟨bq, 0, none⟩)] (fun x => decide (x.person = who)) W (enters_of Tryz.func96 (by kernel_rfl) rfl) (hg.below h).wishes (by have := hz.wishes; omega) (fun x hx W' hW' => whoR_any x bq who W' (cell_later hW' hc))
 have hX0 := ((Box.new w 32 #[.slice g.ra g.rooms.length g.rc, .slice g.sa g.slots.length g.sc, .slice g.ta g.talks.length g.tc, .slice g.wa g.wishes.length g.wc, .slice g.ba g.bans.length g.bc]).alloc (.cells #[.slice pa p.length pc] 50)).alloc (.cells #[.string who] 9)
 have hP0 := (Box.newAt (w.alloc (.cells #[.slice g.ra g.rooms.length g.rc, .slice g.sa g.slots.length g.sc, .slice g.ta g.talks.length g.tc, .slice g.wa g.wishes.length g.wc, .slice g.ba g.bans.length g.bc] 32)) (w.heap.size + 1) 50 #[.slice pa p.length pc] (by simp)).alloc (.cells #[.string who] 9)
 have hW0 := Box.newAt ((w.alloc (.cells #[.slice g.ra g.rooms.length g.rc, .slice g.sa g.slots.length g.sc, .slice g.ta g.talks.length g.tc, .slice g.wa g.wishes.length g.wc, .slice g.ba g.bans.length g.bc] 32)).alloc (.cells #[.slice pa p.length pc] 50)) (w.heap.size + 1 + 1) 9 #[.string who] (by simp)
 have hb0 : Below w.heap.size w (((w.alloc (.cells #[.slice g.ra g.rooms.length g.rc, .slice g.sa g.slots.length g.sc, .slice g.ta g.talks.length g.tc, .slice g.wa g.wishes.length g.wc, .slice g.ba g.bans.length g.bc] 32)).alloc (.cells #[.slice pa p.length pc] 50)).alloc (.cells #[.string who] 9)) := by (repeat' (first | exact Below.refl _ _ | assumption | refine Below.setCell ?_ ?_ _ | refine below_drewN ?_ _ | refine Below.drew ?_ | refine Below.alloc ?_ ?_ _ | (with_reducible refine Below.trans ?_ (Below.mono hb ?_)) | (with_reducible refine Below.trans ?_ (Below.mono hb0 ?_)) | (with_reducible refine Below.trans ?_ (Below.mono hb1 ?_)) | (with_reducible refine Below.trans ?_ (Below.mono hb2 ?_)) | (with_reducible refine Below.trans ?_ (Below.mono hb3 ?_)) | (with_reducible refine Below.trans ?_ (Below.mono hb4 ?_)) | (with_reducible refine Below.trans ?_ (Below.mono hb5 ?_)) | (with_reducible refine Below.trans ?_ (Below.mono hb6 ?_)) | (with_reducible refine Below.trans ?_ (Below.mono hb7 ?_)) | (with_reducible refine Below.trans ?_ (Below.mono hb8 ?_)) | (with_reducible refine Below.trans ?_ (Below.mono hb9 ?_)) | (with_reducible refine Below.trans ?_ (Below.mono hb10 ?_)) | (with_reducible refine Below.trans ?_ (Below.mono hb11 ?_)) | (with_reducible refine Below.trans ?_ (Below.mono hb12 ?_)) | (with_reducible refine Below.trans ?_ (Below.mono hb13 ?_)) | (with_reducible refine Below.trans ?_ (Below.mono hb14 ?_)) | (with_reducible refine Below.trans ?_ (Below.mono hb15 ?_)) | omega | (simp; done) | (simp; omega)))
 rw [Grd.agg_eq]
 unfold AgdRes
 generalize hwo : wishOf g who = wo at *
 go_enter Tryz.func33, Tryz.ntmps33
 have hX0_l := hX0.lt; have hX0_0 := hX0.cell 0; have hX0_1 := hX0.cell 1; have hX0_2 := hX0.cell 2; have hX0_3 := hX0.cell 3; have hX0_4 := hX0.cell 4; simp at hX0_0 hX0_1 hX0_2 hX0_3 hX0_4
 go_wp2_with fail
 clear hX0_l hX0_0 hX0_1 hX0_2 hX0_3 hX0_4
 generalize (((w.alloc (.cells #[.slice g.ra g.rooms.length g.rc, .slice g.sa g.slots.length g.sc, .slice g.ta g.talks.length g.tc, .slice g.wa g.wishes.length g.wc, .slice g.ba g.bans.length g.bc] 32)).alloc (.cells #[.slice pa p.length pc] 50)).alloc (.cells #[.string who] 9)) = W0 at *
 generalize w.heap.size + 1 + 1 = bQ at *
 generalize w.heap.size + 1 = bP at *
 refine (HIX.out W0 bQ hb0 (hW0.cell 0)).mono ?_
 rintro e w1 ⟨r, rfl, hr, hb1, hri⟩
 have hb2 := below_next hb0 hb1
 have hX1 := hX0.below hb1
 have hP1 := hP0.below hb1
 clear HIX hX0 hP0 hW0 hb0 hb1 hr
 subst hri
 by_cases h0 : r < 0
 ·
  have hd : decide (r < 0) = true := decide_eq_true h0
  go_wp2_with fail
  refine bodyPost_ret (v := .tuple #[.slice none 0 0, .slice none 0 0, .int .i64 8]) (by simp only [results, Tryz.results33]; go_simp) rfl ?_
  exact ⟨hb2, .inl ⟨h0, rfl⟩⟩
 ·
  have hd : decide (r < 0) = false := decide_eq_false h0
  obtain ⟨k, hk, hke⟩ : ∃ k, k < g.wishes.length ∧ r = (k : Nat) := by
   have h1 := idxI_nat (c := fun x : Wsh => decide (x.person = who)) (l := g.wishes) (by show 0 ≤ wishOf g who; rw [hwo]; omega)
   obtain ⟨k, h2, h3⟩ := h1
   exact ⟨k, h2, by rw [← hwo]; exact h3⟩
  subst hke
  clear hwo h0
  obtain ⟨ub, uo, hu, u0, u1⟩ := (hg.below hb2).wishes.wshC hk
  have hum : g.wishes[k] ∈ g.wishes := List.getElem_mem hk
  have HPS : Hid (SA w g.wishes[k].a1 g.wishes[k].papers) := hg.papers _ hum
  have huw := (hz.wish _ hum).2.1
  have Hu := Lib.hid hu
  rw [hu] at hX1
  obtain ⟨u, hue⟩ : ∃ u, u = g.wishes[k] := ⟨_, rfl⟩
  rw [← hue] at u0 u1 HPS huw
  have Hue := Lib.hid hue
  clear hue hum
  obtain ⟨u1', wish, wa, wc⟩ := u
  simp only at u0 u1 HPS huw
  have hp0 := hP1.cell 0
  simp at hp0
  have hk0 : (0 : Int) ≤ (k : Int) := by omega
  have hk2 : (k : Int) < (g.wishes.length : Int) := by omega
  have hX1_l := hX1.lt; have hX1_0 := hX1.cell 0; have hX1_1 := hX1.cell 1; have hX1_2 := hX1.cell 2; have hX1_3 := hX1.cell 3; have hX1_4 := hX1.cell 4; simp at hX1_0 hX1_1 hX1_2 hX1_3 hX1_4
  go_upto_region 5 with (fail)
  clear hX1_l hX1_0 hX1_1 hX1_2 hX1_3 hX1_4
  have hW2 := Box.new w1 56 #[.slice wa wish.length wc]
  have hbW : Below w1.heap.size w1 (w1.alloc (.cells #[.slice wa wish.length wc] 56)) := (Below.refl _ _).alloc (Nat.le_refl _) _
  have hb3 := below_next hb2 hbW
  have hX2 := hX1.below hbW
  have hP2 := hP1.below hbW
  have hWl : w.heap.size ≤ w1.heap.size := hb2.size
  clear hX1 hP1 hb2 hbW hp0 u0 u1
  generalize w1.alloc (.cells #[.slice wa wish.length wc] 56) = w2 at *
  generalize w1.heap.size = bW at *
  have hp0 := hP2.cell 0
  simp at hp0
  go_wp2_with fail
  clear hp0
  obtain ⟨base, hbase1, hbase2⟩ : ∃ base, w.heap.size ≤ base ∧ base = w2.heap.size := ⟨_, hb3.size, rfl⟩
  have Hbase := Lib.hid hbase2
  clear hbase2
  go_loopg [46, 11] p.length (fun gk iv sv wr => ∃ (i : Nat) (v : Value), v = sv ∧ iv = .int .i64 i ∧ i ≤ p.length ∧ Hid (gk = p.length - i) ∧ Own base 3 wr v (someTo wish p i) ∧ Below w2.heap.size w2 wr)
  case atStart => exact ⟨0, _, rfl, rfl, by omega, rfl, Own.nil _ _ _, Below.refl _ _⟩
  case round =>
   obtain ⟨i, v, rfl, rfl, hi, hgi, hown, hb⟩ := hrel
   have hbw := below_next hb3 hb
   by_cases hlt : i < p.length
   ·
    obtain ⟨sb, so, ha, c0, c1, c2⟩ := (hp.below hbw).list.sesC hlt
    have hsm : p[i] ∈ p := List.getElem_mem hlt
    have HSP := Lib.hid (fun W (h : Below w.heap.size w W) => (hp.below h).papers _ hsm)
    have hsl := hpo _ hsm
    have Hst := Lib.hid (someTo_succ wish hlt)
    have hsl2 := someTo_len wish p i
    have Ha := Lib.hid ha
    rw [ha]
    clear ha hsm
    generalize someTo wish p i = so_ at *
    generalize p[i] = s at *
    obtain ⟨s1, s2, s3, s4, s5⟩ := s
    simp only at c0 c1 c2 HSP hsl Hst
    go_upto_region 9 with (fail)
    have hS := Box.new wr 114 #[.string s1, .string s2, .slice s4 s3.length s5]
    have hbS : Below wr.heap.size wr (wr.alloc (.cells #[.string s1, .string s2, .slice s4 s3.length s5] 114)) := (Below.refl _ _).alloc (Nat.le_refl _) _
    have hown1 := hown.below hbS
    have hb1 := below_next hb hbS
    have hbw1 := below_next hbw hbS
    clear hown hb hbw hbS c0 c1 c2
    generalize wr.alloc (.cells #[.string s1, .string s2, .slice s4 s3.length s5] 114) = w4 at *
    generalize wr.heap.size = bS at *
    have hW3 := (hW2.below hb1).cell 0
    have hS2 := hS.cell 2
    simp at hW3 hS2
    have HSH := Lib.hid (shares_any wish s3 wa s4 wc s5 w4 (HPS.out.below hbw1) (HSP.out _ hbw1) (by omega) (by omega))
    go_wp2_with fail
    refine HSH.out.mono ?_
    rintro e w5 ⟨rfl, hb5⟩
    have hown2 := hown1.below hb5
    have hb2 := below_next hb1 hb5
    have hsz2 := hb2.size
    clear hown1 hb1 hbw1 hb5 hW3 hS2 HSH hS HSP
    cases hsh : sharesB wish s3
    ·
     rw [hsh, if_neg (by decide), List.append_nil] at Hst
     go_wp2_with fail
     rw [← Ha.out]
     go_roundg (p.length - (i + 1))
     case measure => have := hgi.out; omega
     case rel => exact ⟨i + 1, v, rfl, by go_num, by omega, rfl, by rw [Hst.out]; exact hown2, hb2⟩
    ·
     rw [hsh, if_pos rfl] at Hst
     have hol := hown2.lt
     have hbb := Hbase.out
     go_wp2_with (at_builtin; refine wpList_append_lie (α := Nat) rfl _ _ 22 rfl 3 8 (.int .i64 0) Tryz.underlying22 infoIntA rfl _ so_ rfl (hown2.alloc (.cells #[.int .i64 (i : Nat)] 3)) i _ rfl (Box.new _ _ _) (by omega) (by omega) (by simp; omega) ?_; intro g9 cap9 w9 hown9 hg9 hat9; have hb9 := (hb2.alloc hb2.size (.cells #[.int .i64 (i : Nat)] 3)).grown hg9 (by simp; omega) (fun j hj => by have := (hol j hj).1; omega))
     clear hg9 hat9 hown2 hb2 hol hbb
     rw [← Hst.out] at hown9
     go_wp2_with fail
     rw [← Ha.out]
     go_roundg (p.length - (i + 1))
     case measure => have := hgi.out; omega
     case rel => exact ⟨i + 1, _, rfl, by go_num, by omega, rfl, hown9, hb9⟩
   ·
    obtain rfl : i = p.length := by omega
    have hsomel : someTo wish p p.length = someL wish p := rfl
    have hsl := someTo_len wish p p.length
    rw [hsomel] at hown hsl
    have Hsm : Hid (∀ x ∈ someL wish p, x < p.length) := fun x hx => someL_lt hx
    obtain ⟨va, vc, rfl, hsv, -, -⟩ := hown.form
    clear hsomel hgi hlt hi
    by_cases h14 : 14 < (someL wish p).length
    ·
     have hd : decide ((14 : Int) < ((someL wish p).length : Int)) = true := decide_eq_true (by omega)
     go_wp2_with fail
     refine bodyPost_ret (v := .tuple #[.slice none 0 0, .slice none 0 0, .int .i64 2]) (by simp only [results, Tryz.results33]; go_simp) rfl ?_
     exact ⟨hbw, .inr ⟨k, hk, rfl, .inl ⟨by rw [← Hue.out]; exact h14, rfl⟩⟩⟩
    ·
     have hd : decide ((14 : Int) < ((someL wish p).length : Int)) = false := decide_eq_false (by omega)
     have h14' : (someL wish p).length ≤ 14 := by omega
     generalize hall : someL wish p = all at *
     obtain ⟨NN, hNN, hpb, hpw⟩ := pow_wrap h14'
     have HNN := Lib.hid hNN
     have HAB : Hid (agdBest g p wish = (bestSet (mtN g p) (cnN wish p) all NN).2) := by
      show _ = _
      unfold agdBest
      rw [hall, hNN]
     have HLA : Hid ((someL wish p).length ≤ 14) := by rw [hall]; exact h14'
     clear hNN
     have HAL : Hid (∀ W : World, Below wr.heap.size wr W → SA W va all) := fun W h => hsv.below h
     have hb4 := hbw
     obtain ⟨n0, hn0, hn0e⟩ : ∃ n0, base ≤ n0 ∧ n0 = wr.heap.size := ⟨_, by have := hb.size; have := Hbase.out; omega, rfl⟩
     have Hn0 := Lib.hid hn0e
     have hsome := Hsm.out
     have hPc := (hP2.below hb).cell 0
     have hWc := (hW2.below hb).cell 0
     have hGx := hX2.below hb
     simp at hPc hWc
     have HMT := Lib.hid (fun i k hi hk => mtN_at g (p := p) (i := i) (k := k) hi hk)
     have HSY := Lib.hid (mtN_symm g p)
     have HM := Lib.hid (fun x y W (h : Below w.heap.size w W) => meets_any g x y W (hg.below h) hz)
     have HPB := Lib.hid (fun W (h : Below w.heap.size w W) => hp.below h)
     have HHD : Hid (∀ (l : List Nat) la lc (W : World), Below w.heap.size w W → SA W la l → l.length ≤ 1000 → (∀ i ∈ l, i < p.length) → W.cell? ⟨bP, 0, none⟩ = some (.slice pa p.length pc) → W.cell? ⟨bW, 0, none⟩ = some (.slice wa wish.length wc) → Calls Tryz.prog 98 #[.slice la l.length lc, .pointer (some ⟨bP, 0, none⟩), .pointer (some ⟨bW, 0, none⟩)] W (fun e w' => e = .returned (.int .i64 (sumN (cnN wish p) l : Nat)) ∧ w' = W)) := fun l la lc W h1 h2 h3 h4 h5 h6 => heard_any p pa pc wish wa wc l la lc bP bW W (hp.below h1) hpo (HPS.out.below h1) (by omega) h2 h3 h4 hpl h5 h6
     rw [Grd.agg_eq] at HM
     obtain ⟨w5, hw5⟩ : ∃ w5, w5 = wr := ⟨_, rfl⟩
     have Hw5 := Lib.hid hw5
     rw [← Hw5.out] at HAL
     have HCE : Hid (∀ W, Below w5.heap.size w5 W → W.cell? ⟨bP, 0, none⟩ = some (.slice pa p.length pc) ∧ W.cell? ⟨bW, 0, none⟩ = some (.slice wa wish.length wc) ∧ GBoxA W w.heap.size g) := fun W h => by
      rw [Hw5.out] at h
      refine ⟨cell_later h hPc, cell_later h hWc, ?_⟩
      have := hGx.below h
      unfold GBoxA
      rw [Hu.out]
      exact this
     have HB5 : Hid (Below w.heap.size w w5) := by rw [Hw5.out]; exact hb4
     clear hw5
     generalize hcn : cnN wish p = cn at *
     generalize hmt : mtN g p = mt at *
     clear hown hsv hn0e hd h14 hP2 hW2 hX2
     go_wp2_with fail
     rw [hpw]
     clear hpw
     go_loopg [67, 14] NN (fun gk sv bv wx => ∃ (s : Nat) (vb : Value), vb = bv ∧ sv = .int .i64 s ∧ s ≤ NN ∧ Hid (gk = NN - s) ∧ Own n0 3 wx vb (bestSet mt cn all s).2 ∧ Below w5.heap.size w5 wx)
     case atStart => exact ⟨0, _, rfl, rfl, by omega, rfl, Own.nil _ _ _, by rw [Hw5.out]; exact Below.refl _ _⟩
     case round =>
      obtain ⟨s, vb, rfl, rfl, hs, hgs, hbo, hb5⟩ := hrel
      by_cases hsl2 : s < NN
      ·
       have hs2 : (s : Int) < (NN : Int) := by omega
       obtain ⟨n1, hn1, hn1e⟩ : ∃ n1, n0 ≤ n1 ∧ n1 = wr.heap.size := ⟨_, by have := hb5.size; have h := Hn0.out; rw [← Hw5.out] at h; omega, rfl⟩
       have Hn1 := Lib.hid hn1e
       obtain ⟨w6, hw6⟩ : ∃ w6, w6 = wr := ⟨_, rfl⟩
       have Hw6 := Lib.hid hw6
       go_wp2_with fail
       clear hn1e hw6
       go_loopg [72, 17] all.length (fun gk kv lv wq => ∃ (j : Nat) (vl : Value), vl = lv ∧ kv = .int .i64 j ∧ j ≤ all.length ∧ Hid (gk = all.length - j) ∧ Own n1 3 wq vl (subTo all s j) ∧ Below w6.heap.size w6 wq)
       case atStart => exact ⟨0, _, rfl, rfl, by omega, rfl, Own.nil _ _ _, by rw [Hw6.out]; exact Below.refl _ _⟩
       case round =>
        obtain ⟨j, vl, rfl, rfl, hj, hgj, hlo, hb6⟩ := hrel
        by_cases hjl : j < all.length
        ·
         obtain ⟨xb, xo, hxa, x0⟩ := (HAL.out _ (by rw [← Hw6.out] at hb5; exact below_next hb5 hb6)).natC hjl
         have Hxa := Lib.hid hxa
         rw [hxa]
         clear hxa
         have Hsu := Lib.hid (subTo_succ all s hjl)
         have hq := bit_at s j
         have hj0 : (0 : Int) ≤ (j : Int) := by omega
         have hj64 : decide ((64 : Int) ≤ (j : Int)) = false := decide_eq_false (by omega)
         cases hbt : bitB s j
         ·
          rw [hbt, if_neg (by decide)] at hq
          rw [hbt, if_neg (by decide), List.append_nil] at Hsu
          go_wp2_with fail
          rw [← Hxa.out]
          go_roundg (all.length - (j + 1))
          case measure => have := hgj.out; omega
          case rel => exact ⟨j + 1, _, rfl, by go_num, by omega, rfl, by rw [Hsu.out]; exact hlo, hb6⟩
         ·
          rw [hbt, if_pos rfl] at hq
          rw [hbt, if_pos rfl] at Hsu
          have hol := hlo.lt
          have hbb := Hn1.out
          have hww := Hw6.out
          rw [← hww] at hbb
          clear hww
          have hz6 := hb6.size
          have hll2 := subTo_len all s j
          generalize subTo all s j = lj at *
          go_wp2_with (at_builtin; refine wpList_append_lie (α := Nat) rfl _ _ 22 rfl 3 8 (.int .i64 0) Tryz.underlying22 infoIntA rfl _ lj rfl (hlo.alloc (.cells #[.int .i64 (all[j] : Nat)] 3)) all[j] _ rfl (Box.new _ _ _) (by omega) (by omega) (by simp; omega) ?_; intro g9 cap9 w9 hown9 hg9 hat9; have hb9 := (hb6.alloc hb6.size (.cells #[.int .i64 (all[j] : Nat)] 3)).grown hg9 (by simp; omega) (fun j hj => by have := (hol j hj).1; omega))
          clear hg9 hat9 hlo hb6 hol hbb
          rw [← Hsu.out] at hown9
          go_wp2_with fail
          rw [← Hxa.out]
          go_roundg (all.length - (j + 1))
          case measure => have := hgj.out; omega
          case rel => exact ⟨j + 1, _, rfl, by go_num, by omega, rfl, hown9, hb9⟩
        ·
         obtain rfl : j = all.length := by omega
         have hb7 := by rw [← Hw6.out] at hb5; exact below_next hb5 hb6
         have hlm := fun x hx => hsome x (List.mem_of_mem_take (subTo_mem (all := all) (set := s) all.length (Nat.le_refl _) x hx))
         have hll := subTo_len all s all.length
         have Hst := Lib.hid (bestSet_succR HSY.out cn all s)
         generalize subTo all s all.length = l at *
         obtain ⟨la, lc, rfl, hls, -, hlc⟩ := hlo.form
         have HLS := Lib.hid (fun W (h : Below wr.heap.size wr W) => hls.below h)
         have HLM := Lib.hid hlm
         obtain ⟨w7, hw7⟩ : ∃ w7, w7 = wr := ⟨_, rfl⟩
         have HB7 : Hid (Below w.heap.size w w7) := by rw [hw7]; exact below_next HB5.out hb7
         have HC7 : Hid (∀ W, Below w7.heap.size w7 W → W.cell? ⟨bP, 0, none⟩ = some (.slice pa p.length pc) ∧ W.cell? ⟨bW, 0, none⟩ = some (.slice wa wish.length wc) ∧ GBoxA W w.heap.size g) := fun W h => HCE.out W (by rw [hw7] at h; exact below_next hb7 h)
         have HLW := Lib.hid (fun W (h : Below wr.heap.size wr W) => (hlo.below h).mono hn1)
         rw [← hw7] at HLS HLW
         have Hw7 := Lib.hid hw7
         clear hw7 hlm hls hjl hgj hj
         go_wp2_with fail
         go_loopg [89, 20] l.length (fun gk av fv wx => ∃ a : Nat, av = .int .i64 a ∧ fv = .bool (frTo mt l a) ∧ a ≤ l.length ∧ Hid (gk = l.length - a) ∧ Below w7.heap.size w7 wx)
         case atStart => exact ⟨0, rfl, rfl, by omega, rfl, by rw [Hw7.out]; exact Below.refl _ _⟩
         case round =>
          obtain ⟨a, rfl, rfl, ha, hga, hb8⟩ := hrel
          by_cases hal : a < l.length
          ·
           obtain ⟨lb, lo, hla, y0⟩ := (HLS.out _ hb8).natC hal
           have Hla := Lib.hid hla
           have hip := HLM.out _ (List.getElem_mem hal)
           have Hfr := Lib.hid (frTo_succ mt hal)
           rw [hla]
           clear hla
           generalize l[a] = i at *
           generalize frTo mt l a = F0 at *
           have ha0 : (0 : Int) ≤ (a : Int) := by omega
           have ha1 : a ≤ lc := by omega
           have ha2 : (a : Int) < (l.length : Int) := by omega
           go_wp2_with fail
           go_loopg [98, 20] a (fun gk jv fv wx => ∃ j : Nat, jv = .int .i64 j ∧ fv = .bool (F0 && (l.take j).all (fun k => !mt i k)) ∧ j ≤ a ∧ Hid (gk = a - j) ∧ Below w7.heap.size w7 wx)
           case atStart => exact ⟨0, rfl, by simp, by omega, rfl, hb8⟩
           case round =>
            obtain ⟨j, rfl, rfl, hj, hgj, hb9⟩ := hrel
            by_cases hja : j < a
            ·
             have hjl : j < l.length := by omega
             obtain ⟨lb2, lo2, hla2, z0⟩ := (HLS.out _ hb9).natC hjl
             rw [Hla.out] at hla2
             cases hla2
             have hkp := HLM.out _ (List.getElem_mem hjl)
             have Hat := Lib.hid (all_take (fun k => !mt i k) hjl)
             have hmt := HMT.out i l[j] hip hkp
             generalize l[j] = o at *
             generalize (l.take j).all (fun k => !mt i k) = A0 at *
             have hbW := below_next HB7.out hb9
             have hPW := HPB.out _ hbW
             obtain ⟨pb, po, hpa, c0, c1, c2⟩ := hPW.list.sesC hip
             obtain ⟨pb2, po2, hpa2, d0, d1, d2⟩ := hPW.list.sesC hkp
             rw [hpa] at hpa2
             cases hpa2
             have hcP := (HC7.out _ hb9).1
             have hGb := (HC7.out _ hb9).2.2
             rw [hpa] at hcP
             clear hpa hPW
             have hM := Lib.hid (fun W h => HM.out p[i] p[o] W h)
             rw [← hmt] at hM
             clear hmt
             generalize mt i o = M at *
             generalize hsi : p[i] = si at *
             generalize hso : p[o] = so at *
             obtain ⟨s1, s2, s3, s4, s5⟩ := si
             obtain ⟨o1, o2, o3, o4, o5⟩ := so
             simp only at c0 c1 c2 d0 d1 d2
             unfold Ses.agg at hM
             simp only at hM
             have hi0 : (0 : Int) ≤ (i : Int) := by omega
             have hi2 : (i : Int) < (p.length : Int) := by omega
             have ho0 : (0 : Int) ≤ (o : Int) := by omega
             have ho2 : (o : Int) < (p.length : Int) := by omega
             unfold GBoxA at hGb
             have hg_0 := hGb.cell 0
             have hg_1 := hGb.cell 1
             have hg_2 := hGb.cell 2
             have hg_3 := hGb.cell 3
             have hg_4 := hGb.cell 4
             simp at hg_0 hg_1 hg_2 hg_3 hg_4
             clear hsi hso
             generalize hF : (F0 && A0) = F at *
             rw [Hu.out] at hg_3 hM
             go_upto_region 33 with (fail)
             refine wp_region_held_drew (S := (fun wx => wx.cell? ⟨w.heap.size, 0, none⟩ = some (.slice g.ra g.rooms.length g.rc) ∧ wx.cell? ⟨w.heap.size, 1, none⟩ = some (.slice g.sa g.slots.length g.sc) ∧ wx.cell? ⟨w.heap.size, 2, none⟩ = some (.slice g.ta g.talks.length g.tc) ∧ wx.cell? ⟨w.heap.size, 3, none⟩ = some (.slice (some ⟨ub, uo, none⟩) g.wishes.length g.wc) ∧ wx.cell? ⟨w.heap.size, 4, none⟩ = some (.slice g.ba g.bans.length g.bc) ∧ wx.cell? ⟨bP, 0, none⟩ = some (.slice (some ⟨pb, po, none⟩) p.length pc) ∧ wx.cell? ⟨pb, po + i * 3, none⟩ = some (.string s1) ∧ wx.cell? ⟨pb, po + i * 3 + 1, none⟩ = some (.string s2) ∧ wx.cell? ⟨pb, po + i * 3 + 2, none⟩ = some (.slice s4 s3.length s5) ∧ wx.cell? ⟨pb, po + o * 3, none⟩ = some (.string o1) ∧ wx.cell? ⟨pb, po + o * 3 + 1, none⟩ = some (.string o2) ∧ wx.cell? ⟨pb, po + o * 3 + 2, none⟩ = some (.slice o4 o3.length o5) ∧ Below wr.heap.size wr wx)) (by kernel_rfl) ?hS (fun hHeld => ?_)
             case hS => exact ⟨hg_0, hg_1, hg_2, hg_3, hg_4, hcP, c0, c1, c2, d0, d1, d2, (Below.refl _ _).drew⟩
             refine rt 0 (some 102) ?_
             refine rt 1 (some 103) ?_
             cases F
             ·
              (try skip)
              refine rs 2 (some 104) ?_
              refine rs 3 (some 105) ?_
              refine rs 4 (some 106) ?_
              refine rs 5 (some 107) ?_
              refine rs 6 (some 108) ?_
              refine rs 7 (some 109) ?_
              refine rs 8 (some 110) ?_
              refine rs 9 (some 111) ?_
              refine rs 10 (some 112) ?_
              refine rs 11 (some 113) ?_
              refine rs 12 (some 114) ?_
              refine rt 13 (some 115) ?_
              refine rt 14 (some 20) ?_
              refine wpAnyH_done (by kernel_rfl) ?_ _
              have hbF := below_next hb9 hHeld.2.2.2.2.2.2.2.2.2.2.2.2
              go_wp2_with fail
              go_roundg (a - (j + 1))
              case measure => have := hgj.out; omega
              case rel => exact ⟨j + 1, by go_num, by rw [Hat.out, ← Bool.and_assoc, hF]; rfl, by omega, rfl, hbF⟩
             ·
              (try skip)
              refine rt 2 (some 104) ?_
              refine rt 3 (some 105) ?_
              refine rt 4 (some 106) ?_
              refine rt 5 (some 107) ?_
              refine rt 6 (some 108) ?_
              refine rt 7 (some 109) ?_
              refine rt 8 (some 110) ?_
              refine rt 9 (some 111) ?_
              refine rt 10 (some 112) ?_
              refine rcall (i := 11) (d := (some 113)) (by kernel_rfl) rfl (by kernel_rfl) (fun K hK => ?_)
              go_simp
              go_at_call 100; refine (hM.out _ (below_next hbW hHeld.2.2.2.2.2.2.2.2.2.2.2.2)).mono ?_; rintro e w3 ⟨rfl, hb3⟩
              refine hK.out _ _ ?hS (fun hHeld => ?_)
              case hS => exact ⟨cell_later hb3 hHeld.1, cell_later hb3 hHeld.2.1, cell_later hb3 hHeld.2.2.1, cell_later hb3 hHeld.2.2.2.1, cell_later hb3 hHeld.2.2.2.2.1, cell_later hb3 hHeld.2.2.2.2.2.1, cell_later hb3 hHeld.2.2.2.2.2.2.1, cell_later hb3 hHeld.2.2.2.2.2.2.2.1, cell_later hb3 hHeld.2.2.2.2.2.2.2.2.1, cell_later hb3 hHeld.2.2.2.2.2.2.2.2.2.1, cell_later hb3 hHeld.2.2.2.2.2.2.2.2.2.2.1, cell_later hb3 hHeld.2.2.2.2.2.2.2.2.2.2.2.1, below_next hHeld.2.2.2.2.2.2.2.2.2.2.2.2 hb3⟩
              clear hK K
              simp only [Act.put, lsetA, lsetZ, lsetS]
              refine rt 12 (some 114) ?_
              refine rt 13 (some 115) ?_
              refine rt 14 (some 20) ?_
              refine wpAnyH_done (by kernel_rfl) ?_ _
              have hbF := below_next hb9 hHeld.2.2.2.2.2.2.2.2.2.2.2.2
              go_wp2_with fail
              go_roundg (a - (j + 1))
              case measure => have := hgj.out; omega
              case rel => exact ⟨j + 1, by go_num, by rw [Hat.out, ← Bool.and_assoc, hF]; rfl, by omega, rfl, hbF⟩
            ·
             obtain rfl : j = a := by omega
             rw [← Hfr.out]
             go_wp2_with fail
             rw [← Hla.out]
             go_roundg (l.length - (j + 1))
             case measure => have := hga.out; omega
             case rel => exact ⟨j + 1, by go_num, rfl, by omega, rfl, hb9⟩
          ·
           obtain rfl : a = l.length := by omega
           have hb10 := by rw [Hw7.out] at hb8; exact below_next hb6 hb8
           have hbW := below_next HB7.out hb8
           have hbo7 := by rw [← Hw6.out] at hbo; exact hbo.below hb10
           obtain ⟨vba, vbc, rfl, hbs, -, -⟩ := hbo7.form
           have hls := HLS.out _ hb8
           have hcP := (HC7.out _ hb8).1
           have hcW := (HC7.out _ hb8).2.1
           have hbm := fun x hx => hsome x (bestSet_mem (mt := mt) (cn := cn) s x hx)
           have hbl := bestSet_len (mt := mt) (cn := cn) (all := all) s
           have hb11 := by rw [← Hw6.out] at hb5; exact below_next hb5 hb10
           have HLO := Lib.hid (HLW.out _ hb8)
           obtain ⟨bN, hbN⟩ : ∃ bN, bN = (bestSet mt cn all (s + 1)).2 := ⟨_, rfl⟩
           have HbN := Lib.hid hbN
           have Hst2 : Hid (bN = if (frTo mt l l.length && decide (firstOf [Lib.compareInt (sumN cn (bestSet mt cn all s).2 : Nat) (sumN cn l : Nat), Lib.compareInt (l.length : Int) ((bestSet mt cn all s).2.length : Int), cmpL l (bestSet mt cn all s).2] < 0)) = true then l else (bestSet mt cn all s).2) := by
            show _ = _
            rw [hbN, Hst.out]
            split <;> rfl
           have H1 := Lib.hid (HHD.out (bestSet mt cn all s).2 vba vbc wr hbW hbs (by omega) hbm hcP hcW)
           have H2 := Lib.hid (HHD.out l la lc wr hbW hls (by omega) HLM.out hcP hcW)
           have H3 := Lib.hid (fun x y => Tryz.cmp_Compare_int x y wr)
           have H4 := Lib.hid (compareL_any l (bestSet mt cn all s).2 la vba lc vbc wr hls hbs (by omega) (by omega))
           clear hbN Hst hbs hls hcP hcW hbm hbW
           generalize (bestSet mt cn all s).2 = lB at *
           generalize hc1 : Lib.compareInt (sumN cn lB : Nat) (sumN cn l : Nat) = c1 at *
           generalize hc2 : Lib.compareInt (l.length : Int) (lB.length : Int) = c2 at *
           generalize hc3 : cmpL l lB = c3 at *
           have H5 := Lib.hid (fun a W (h : SA W a [c1, c2, c3]) => orI_any [c1, c2, c3] a 3 W h (by simp))
           have Hc1 := Lib.hid hc1
           have Hc2 := Lib.hid hc2
           have Hc3 := Lib.hid hc3
           clear hc1 hc2 hc3
           generalize firstOf [c1, c2, c3] = fo at *
           generalize frTo mt l l.length = F at *
           generalize sumN cn lB = n1_ at *
           generalize sumN cn l = n2_ at *
           have hz5 := hb11.size
           cases F
           ·
            have Hst3 : Hid (bN = lB) := by show _ = _; rw [Hst2.out]; simp
            clear Hst2
            go_wp2_with fail
            go_roundg (NN - (s + 1))
            case measure => have := hgs.out; omega
            case rel => exact ⟨s + 1, _, rfl, by go_num, by omega, rfl, by rw [← HbN.out, Hst3.out]; exact hbo7, hb11⟩
           ·
            go_wp2_with fail
            refine H1.out.mono ?_
            rintro e w8 ⟨rfl, rfl⟩
            go_wp2_with fail
            refine H2.out.mono ?_
            rintro e w8 ⟨rfl, rfl⟩
            go_wp2_with fail
            refine (H3.out _ _).mono ?_
            rintro e w8 ⟨rfl, rfl⟩
            rw [Hc1.out]
            go_wp2_with fail
            refine (H3.out _ _).mono ?_
            rintro e w8 ⟨rfl, rfl⟩
            rw [Hc2.out]
            go_wp2_with fail
            refine H4.out.mono ?_
            rintro e w8 ⟨rfl, rfl⟩
            go_wp2_with fail
            refine (H5.out _ _ (Box.sa (Box.new _ _ _) [c1, c2, c3] rfl)).mono ?_
            rintro e w8 ⟨rfl, rfl⟩
            have hbA := hb11.alloc hb11.size (.cells #[.int .i64 c1, .int .i64 c2, .int .i64 c3] 3)
            have hboA := hbo7.alloc (.cells #[.int .i64 c1, .int .i64 c2, .int .i64 c3] 3)
            have HLA2 := Lib.hid (HLO.out.alloc (.cells #[.int .i64 c1, .int .i64 c2, .int .i64 c3] 3))
            by_cases hfo : fo < 0
            ·
             have hd : decide (fo < 0) = true := decide_eq_true hfo
             have Hst3 : Hid (bN = l) := by show _ = _; rw [Hst2.out, hd]; simp
             clear Hst2 hfo
             go_wp2_with fail
             go_roundg (NN - (s + 1))
             case measure => have := hgs.out; omega
             case rel => exact ⟨s + 1, _, rfl, by go_num, by omega, rfl, by rw [← HbN.out, Hst3.out]; exact HLA2.out, hbA⟩
            ·
             have hd : decide (fo < 0) = false := decide_eq_false hfo
             have Hst3 : Hid (bN = lB) := by show _ = _; rw [Hst2.out, hd]; simp
             clear Hst2 hfo
             go_wp2_with fail
             go_roundg (NN - (s + 1))
             case measure => have := hgs.out; omega
             case rel => exact ⟨s + 1, _, rfl, by go_num, by omega, rfl, by rw [← HbN.out, Hst3.out]; exact hboA, hbA⟩
      ·
       obtain rfl : s = NN := by omega
       have hbW := below_next HB5.out hb5
       have hbm := fun x hx => hsome x (bestSet_mem (mt := mt) (cn := cn) s x hx)
       have hbl := bestSet_len (mt := mt) (cn := cn) (all := all) s
       clear hsome HMT HSY HM HHD HAL HNN hpb
       generalize (bestSet mt cn all s).2 = bl at *
       obtain ⟨vba, vbc, rfl, hbs, -, -⟩ := hbo.form
       obtain ⟨w8, hw8⟩ : ∃ w8, w8 = wr := ⟨_, rfl⟩
       have HBS := Lib.hid (fun W (h : Below wr.heap.size wr W) => hbs.below h)
       rw [← hw8] at HBS
       have HC8 : Hid (∀ W, Below w8.heap.size w8 W → W.cell? ⟨bP, 0, none⟩ = some (.slice pa p.length pc) ∧ W.cell? ⟨bW, 0, none⟩ = some (.slice wa wish.length wc) ∧ GBoxA W w.heap.size g) := fun W h => HCE.out W (by rw [hw8] at h; exact below_next hb5 h)
       have HB8 : Hid (Below w.heap.size w w8) := by rw [hw8]; exact hbW
       have HPT : Hid (∀ W, Below w8.heap.size w8 W → SA W wa wish) := fun W h => HPS.out.below (below_next HB8.out h)
       have Hw8 := Lib.hid hw8
       have HBM := Lib.hid hbm
       clear hw8 hbs hbo hb5 hbW HCE hbm
       go_wp2_with fail
       go_loopg [143, 25, 26] bl.length (fun gk iv pv sv wx => ∃ (j : Nat) (v1 v2 : Value) (ls : List Ses), v1 = pv ∧ v2 = sv ∧ iv = .int .i64 j ∧ j ≤ bl.length ∧ Hid (gk = bl.length - j) ∧ PS w8.heap.size wx v1 v2 ((bl.take j).flatMap (hrdAt wish p)) ls ∧ Hid (ls.map (fun s => some (keyOf3 s)) = (bl.take j).map (fun i => p[i]?.map keyOf3)) ∧ Below w8.heap.size w8 wx)
       case atStart => exact ⟨0, _, _, [], rfl, rfl, rfl, by omega, rfl, PS.nil _ _, rfl, by rw [Hw8.out]; exact Below.refl _ _⟩
       case round =>
        obtain ⟨j, v1, v2, ls, rfl, rfl, rfl, hj, hgj, hps, hlk, hb9⟩ := hrel
        by_cases hjl : j < bl.length
        ·
         obtain ⟨lb, lo, hla, y0⟩ := (HBS.out _ hb9).natC hjl
         have Hla := Lib.hid hla
         rw [hla]
         clear hla
         have hip := HBM.out _ (List.getElem_mem hjl)
         have Hf1 := Lib.hid (hrd_take (wish := wish) hjl hip)
         have Hf2 := Lib.hid (key_take hjl hip)
         have hln := hrd_len (wish := wish) hpo (bl.take j)
         rw [List.length_take, Nat.min_eq_left (by omega)] at hln
         have hlsl : ls.length ≤ 14 := by
          have hlsl := congrArg List.length hlk.out
          rw [List.length_map, List.length_map, List.length_take, Nat.min_eq_left (by omega)] at hlsl
          omega
         generalize bl[j] = i at *
         generalize (bl.take j).flatMap (hrdAt wish p) = acc at *
         have hbw := below_next HB8.out hb9
         have hPW := HPB.out _ hbw
         obtain ⟨pb, po, hpa, c0, c1, c2⟩ := hPW.list.sesC hip
         have hsp := hPW.papers _ (List.getElem_mem hip)
         have hsl := hpo _ (List.getElem_mem hip)
         have hcP := (HC8.out _ hb9).1
         rw [hpa] at hcP
         clear hpa hPW
         have hi0 : (0 : Int) ≤ (i : Int) := by omega
         have hi2 : (i : Int) < (p.length : Int) := by omega
         generalize p[i] = sx at *
         obtain ⟨s1, s2, s3, s4, s5⟩ := sx
         simp only at c0 c1 c2 hsp hsl Hf1 Hf2
         go_upto_region 45 with (fail)
         have hS := Box.new wr 114 #[.string s1, .string s2, .slice s4 s3.length s5]
         have hbS : Below wr.heap.size wr (wr.alloc (.cells #[.string s1, .string s2, .slice s4 s3.length s5] 114)) := (Below.refl _ _).alloc (Nat.le_refl _) _
         have hsp4 := hsp.below hbS
         have hz9 := hb9.size
         clear hsp c0 c1 c2 hcP y0
         generalize wr.alloc (.cells #[.string s1, .string s2, .slice s4 s3.length s5] 114) = w4 at *
         have HCL := Lib.hid (clone_any s3 s4 s5 w4 hsp4 (by omega))
         have hS2 := hS.cell 2
         simp at hS2
         go_wp2_with fail
         refine HCL.out.mono ?_
         rintro e w5' ⟨vC, rfl, hoC, hbC⟩
         obtain ⟨aC, cC, rfl, -, -, -⟩ := hoC.form
         have hSC := hS.below hbC
         have hSl := hS.lt
         have hS6 := hSC.set 2 (.slice aC s3.length cC)
         simp at hS6
         have hoC6 := hoC.setOther (p := ⟨wr.heap.size, 2, none⟩) (fun b hb => by have := (hoC.lt b hb).1; show b ≠ wr.heap.size; omega) (.slice aC s3.length cC)
         have hb6 : Below wr.heap.size wr (w5'.setCell ⟨wr.heap.size, 2, none⟩ (.slice aC s3.length cC)) := (below_next hbS hbC).setCell (p := ⟨wr.heap.size, 2, none⟩) (Nat.le_refl _) _
         clear hS hS2 HCL hoC hsp4
         have hSC_l := hSC.lt; have hSC_0 := hSC.cell 0; have hSC_1 := hSC.cell 1; have hSC_2 := hSC.cell 2; simp at hSC_0 hSC_1 hSC_2
         have hSC_f0 := hSC.frozen 0; have hSC_f1 := hSC.frozen 1; have hSC_f2 := hSC.frozen 2
         go_upto_region 46 with (fail)
         clear hSC_l hSC_0 hSC_1 hSC_2
         clear hSC_f0 hSC_f1 hSC_f2
         clear hSC
         generalize w5'.setCell ⟨wr.heap.size, 2, none⟩ (.slice aC s3.length cC) = w6 at *
         have hps6 := hps.below hb6
         have hb96 := below_next hb9 hb6
         have hz6 := hb96.size
         have Hol := Lib.hid hps6.b.1.lt
         have Hwl := Lib.hid hps.b.1.lt
         have HO6 := Lib.hid (hps6.b.1.alloc (.cells #[.string s1, .string s2, .slice aC s3.length cC] 114))
         have HPC := Lib.hid (fun g n cap w9 (h1 : Own w8.heap.size 114 w9 (.slice (some ⟨g, 0, none⟩) n cap) (ls ++ [⟨s1, s2, s3, aC, cC⟩])) (h2 : (w6.alloc (.cells #[.string s1, .string s2, .slice aC s3.length cC] 114)).grownBy w9 v2.ownBlock) h3 => PS.cloned hps hb6 hoC6 (by omega) hz9 h1 h2 h3)
         have HS6 := Lib.hid (hS6.alloc (.cells #[.string s1, .string s2, .slice aC s3.length cC] 114))
         have HB6 := Lib.hid (hb96.alloc hb96.size (.cells #[.string s1, .string s2, .slice aC s3.length cC] 114))
         clear hps6 hps hb96 hb6 hoC6 hbC hbS hbw hb9
         have hS6_l := hS6.lt; have hS6_0 := hS6.cell 0; have hS6_1 := hS6.cell 1; have hS6_2 := hS6.cell 2; simp at hS6_0 hS6_1 hS6_2
         go_wp2_with (at_builtin; refine wpList_append_lie (α := Ses) rfl _ _ 50 rfl 114 56 (.agg #[.string ⟨#[]⟩, .string ⟨#[]⟩, .slice none 0 0]) Tryz.underlying50 infoSesA rfl v2 ls rfl HO6.out ⟨s1, s2, s3, aC, cC⟩ _ rfl (Box.new _ _ _) (by omega) (by omega) (by simp; omega) ?_; intro g9 cap9 w9 hown9 hg9 hat9; have hb99 := HB6.out.grown hg9 (by simp; omega) (fun j hj => by have := (Hol.out j hj).1; omega); have hS9 := HS6.out.grown hg9 (fun e => by have := (Hwl.out _ e.symm).2; omega); have hps9 := HPC.out _ _ _ _ hown9 hg9 hat9; have hS92 := hS9.cell 2; simp at hS92)
         clear hS6_l hS6_0 hS6_1 hS6_2
         clear hown9 hg9 hat9 hS6 HO6 HPC HS6 HB6 Hol Hwl
         clear hS92 hS9
         go_loopg [162, 25] s3.length (fun gm mv pv wx => ∃ (m : Nat) (v1' : Value), v1' = pv ∧ mv = .int .i64 m ∧ m ≤ s3.length ∧ Hid (gm = s3.length - m) ∧ PS w8.heap.size wx v1' (.slice (some ⟨g9, 0, none⟩) (ls.length + 1) cap9) (acc ++ (s3.take m).filter (inB wish)) (ls ++ [⟨s1, s2, s3, aC, cC⟩]) ∧ Below w8.heap.size w8 wx)
         case atStart => exact ⟨0, _, rfl, rfl, by omega, rfl, by rw [List.take_zero, List.filter_nil, List.append_nil]; exact hps9, hb99⟩
         case round =>
          obtain ⟨m, v1', rfl, rfl, hm, hgm, hps, hb⟩ := hrel
          by_cases hml : m < s3.length
          ·
           have hrd : SA wr aC s3 := hps.b.rd ⟨s1, s2, s3, aC, cC⟩ (by simp)
           obtain ⟨tb, to_, hta, e0⟩ := hrd.str hml
           have Hft := Lib.hid (fil_take (inB wish) hml)
           have hfl := List.length_filter_le (inB wish) (s3.take m)
           rw [List.length_take, Nat.min_eq_left (by omega)] at hfl
           have Hta := Lib.hid hta
           rw [hta]
           clear hta hrd
           generalize s3[m] = x at *
           have HCx := Lib.hid (contains_any wish wa wc x wr (HPT.out _ hb) (by omega))
           have Hx : Hid (wish.any (fun y => decide (y = x)) = inB wish x) := rfl
           rw [Hx.out] at HCx
           have hcW := (HC8.out _ hb).2.1
           generalize (s3.take m).filter (inB wish) = M at *
           go_wp2_with fail
           refine HCx.out.mono ?_
           rintro e w1 ⟨rfl, rfl⟩
           cases hin : inB wish x
           ·
            rw [hin, if_neg (by decide), List.append_nil] at Hft
            go_wp2_with fail
            rw [← Hta.out]
            go_roundg (s3.length - (m + 1))
            case measure => have := hgm.out; omega
            case rel => exact ⟨m + 1, _, rfl, by go_num, by omega, rfl, by rw [Hft.out]; exact hps, hb⟩
           ·
            rw [hin, if_pos rfl] at Hft
            have hol := hps.a.lt
            have hzb := hb.size
            go_wp2_with (at_builtin; refine wpList_append_lie (α := ByteArray) rfl _ _ 56 rfl 9 16 (.string ⟨#[]⟩) Tryz.underlying56 Tryz.infoString rfl _ (acc ++ M) rfl (hps.a.alloc (.cells #[.string x] 9)) x _ rfl (Box.new _ _ _) (by simp; omega) (by simp; omega) (by simp; omega) ?_; intro g8 cap8 w9' hown8 hg8 hat8; have hb98 := (hb.alloc hb.size (.cells #[.string x] 9)).grown hg8 (by simp; omega) (fun j hj => by have := (hol j hj).1; omega); have hps8 := (hps.below ((Below.refl _ _).alloc (Nat.le_refl _) (.cells #[.string x] 9))).papers hown8 hg8 hat8)
            clear hown8 hg8 hat8 hps hb hol
            rw [List.append_assoc, ← Hft.out, List.length_append] at hps8
            go_wp2_with fail
            rw [← Hta.out]
            go_roundg (s3.length - (m + 1))
            case measure => have := hgm.out; omega
            case rel => exact ⟨m + 1, _, rfl, by go_num, by omega, rfl, hps8, hb98⟩
          ·
           obtain rfl : m = s3.length := by omega
           rw [List.take_length, ← Hf1.out] at hps
           have hlk2 : Hid ((ls ++ [(⟨s1, s2, s3, aC, cC⟩ : Ses)]).map (fun s => some (keyOf3 s)) = (bl.take (j + 1)).map (fun i => p[i]?.map keyOf3)) := by
            show _ = _
            rw [Hf2.out, List.map_append, hlk.out]
            rfl
           go_wp2_with fail
           rw [← Hla.out]
           go_roundg (bl.length - (j + 1))
           case measure => have := hgj.out; omega
           case rel => exact ⟨j + 1, _, _, _, rfl, rfl, by go_num, by omega, rfl, hps, hlk2, hb⟩
        ·
         obtain rfl : j = bl.length := by omega
         rw [List.take_length] at hps hlk
         have hbw := below_next HB8.out hb9
         have hln := hrd_len (wish := wish) hpo bl
         obtain ⟨acc, hacc⟩ : ∃ acc, acc = bl.flatMap (hrdAt wish p) := ⟨_, rfl⟩
         have Hacc := Lib.hid hacc
         rw [← hacc] at hps hln
         clear hacc
         obtain ⟨a1, c1, rfl, hs1, -, -⟩ := hps.a.form
         have HSO := Lib.hid (sorted_any _ a1 c1 wr hs1 (by omega))
         clear hs1
         go_wp2_with fail
         refine HSO.out.mono ?_
         rintro e w9 ⟨vA, rfl, hoA, hbA⟩
         go_wp2_with fail
         refine bodyPost_ret (v := .tuple #[vA, v2, .int .i64 0]) (by simp only [results, Tryz.results33]; go_simp) rfl ?_
         have hz8 := HB8.out.size
         have hzw := hbw.size
         refine ⟨below_next hbw hbA, .inr ⟨k, hk, rfl, .inr ⟨?_, vA, v2, ls, rfl, ?_, (hps.b.below hbA).mono hz8, ?_⟩⟩⟩
         ·
          rw [← Hue.out]; exact HLA.out
         ·
          rw [← Hue.out]
          show Own _ _ _ _ (keysS ((agdBest g p wish).flatMap (hrdAt wish p)))
          rw [HAB.out, ← Hacc.out]
          exact hoA.mono hzw
         ·
          rw [← Hue.out]
          show _ = (agdBest g p wish).map _
          rw [HAB.out]
          exact hlk.out
end Go.Proofs.YtaecdhdnjmckpaaGreatDoor
