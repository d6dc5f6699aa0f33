/- For every list of raw numbers, AuthorsFound returns true. The walk. -/
import Derived.Test.YthajoedabjfaaaaGreatDoorMakeGive
import Derived.Test.YthajoedabjfaaaaGreatDoorAnon4
import Derived.Test.YthajoedabjfaaaaGreatDoorCov
import Derived.Test.YthajoedabjfaaaaGreatDoorCovR
import Derived.Test.YthajoedabjfaaaaGreatDoorSubmits2
import Derived.Test.YthajoedabjfaaaaGreatDoorReg
namespace Go.Proofs.YthajoedabjfaaaaGreatDoor.authorsFound
open Go.RowKit
set_option linter.unusedVariables false
set_option linter.unusedSimpArgs false

set_option maxRecDepth 100000 in
set_option maxHeartbeats 4000000 in
/-- Two slices that read alike are equal. -/
theorem eqGive_any (l : List Gv) (a a2 : Option Addr) (cap cap2 : Nat) (w : World) (h : SA w a l) (h2 : SA w a2 l) (hlen : l.length ≤ 1000000000) :
    Calls Tryz.prog 12 #[.slice a l.length cap, .slice a2 l.length cap2] w (Draws (.bool true) w) := by
  have hq0 : ((l.length : Int) != (l.length : Int)) = false := by simp
  go_enter Tryz.func12, Tryz.ntmps12
  go_wp2_with fail
  go_loopg [13] l.length (fun gk i wr => ∃ k : Nat, i = .int .i64 k ∧ k ≤ l.length ∧ Hid (gk = l.length - k) ∧ ∃ n, wr = w.drewN n)
  case atStart => exact ⟨0, rfl, by omega, rfl, 0, rfl⟩
  case round =>
    obtain ⟨k, rfl, hk, hgk, n, rfl⟩ := hrel
    by_cases hlt : k < l.length
    · obtain ⟨b, off, ha, c0, c1, c2, c3⟩ := h.giv hlt
      obtain ⟨b', off', ha', d0, d1, d2, d3⟩ := h2.giv hlt
      rw [ha, ha']
      generalize l[k] = x at *
      obtain ⟨x1, x2, x3, x4⟩ := x
      simp only at *
      have hk1 : (0 : Int) ≤ (k : Int) := by omega
      have hk2 : (k : Int) < (l.length : Int) := by omega
      go_wp2_with fail
      go_quiet (fail)
      go_wp2_with fail
      rw [← ha, ← ha']
      go_roundg (l.length - (k + 1))
      case measure => have := hgk.out; omega
      case rel => exact ⟨k + 1, by go_num, by omega, rfl, _, rfl⟩
    · go_wp2_with fail
      go_ret
      exact ⟨rfl, _, rfl⟩
theorem anonE_zero {t : ByteArray} {names homes : List ByteArray} (h : anonE t names homes = 0) : (names ++ homes).all nameB = true ∧ t.size ≤ 20000 := by
  unfold anonE at h
  split at h
  · rename_i h1; exact ⟨h1, bodyE_size h⟩
  · exact absurd h (by decide)
theorem coverV_ok {s : ByteArray} {gs : List Gv} (h : coverE s gs = 0) : coverV s gs = covS s (overG gs) := by
  unfold coverV
  rw [if_neg (fun e => e h)]
theorem giv_len {t : ByteArray} {names homes : List ByteArray} (ht : t.size ≤ 20000) (hn : names.length ≤ 20) (hh : homes.length ≤ 50) : (compG (sortG (allG t names homes))).length ≤ 1000000000 := by
  have h1 := ddTo_len (sortG (allG t names homes)) (sortG (allG t names homes)).length
  have h2 := sortG_len (allG t names homes)
  have h3 := namesG_len (t := t) (by omega) hn names.length
  have h4 := homesG_len (t := t) ht hh homes.length
  have h5 := oursTo_len t (wordsS t).length
  have h6 := spots_len t
  rw [← wordsS_length] at h6
  rw [List.take_length] at h3 h4
  have h7 : (allG t names homes).length = (namesG t names).length + (homesG t homes).length + (oursTo t (wordsS t).length).length := by
    unfold allG oursS
    rw [List.length_append, List.length_append, addAll_len]
  unfold compG
  omega
set_option maxRecDepth 100000 in
set_option maxHeartbeats 16000000 in
theorem walk (a0 : Option Addr) (len0 cap0 : Nat) (z0 : List Int) (w : World) (w0 : IsRow .i64 w a0 len0 cap0 z0) (hE : Env w) :
    Calls Tryz.prog 3 #[.slice a0 len0 cap0] w fun e w' => e = .returned (.bool true) ∧ Below w.heap.size w w' := by
  have hs := strm_new w0
  have hES := hE.envS
  go_enter Tryz.func3, Tryz.ntmps3
  go_wp2_with fail
  refine (nameList_any w.heap.size 0 _ hs (by omega)).mono ?_
  rintro e w1 ⟨v1, names, rfl, hnl, hnz, hown1, h1, s1⟩
  have hz1 := h1.size
  simp at hz1 hown1
  go_wp2_with fail
  refine (homes_any w.heap.size (0 + 20) _ s1 (by omega)).mono ?_
  rintro e w2 ⟨v2, homes, rfl, hhl, hhz, hown2, h2, s2⟩
  have hz2 := h2.size
  go_wp2_with fail
  refine (paperText_any w.heap.size _ _ s2 (by omega)).mono ?_
  rintro e w3 ⟨t, ht, rfl, h3, s3⟩
  have hz3 := h3.size
  have hst3 := ((((Stp.refl w.heap.size w).alloc (.cells #[.slice a0 len0 cap0, .int .i64 0] 25)).trans h1).trans h2).trans h3
  have hE3 : Env w3 := hE.stp hst3 hES
  obtain ⟨na, nc, rfl, hn, -, -⟩ := ((hown1.stp h2 (by omega)).stp h3 (by omega)).sa
  obtain ⟨ha, hc, rfl, hh, -, -⟩ := (hown2.stp h3 (by omega)).sa
  have Hnz := Lib.hid hnz
  have Hhz := Lib.hid hhz
  obtain ⟨n, hmin⟩ : ∃ n, min t.size 80 = n := ⟨_, rfl⟩
  have hmin2 : min (t.size : Int) 80 = (n : Int) := by omega
  have hn80 : n ≤ 80 := by omega
  clear hs w0 hmin hown1 hown2 h1 h2 h3 s1 s2 hnz hhz
  go_wp2_with fail
  go_loopg [29] names.length (fun gk i wr => ∃ k : Nat, i = .int .i64 k ∧ k ≤ names.length ∧ Hid (gk = names.length - k) ∧ Below w3.heap.size w3 wr)
  case atStart => exact ⟨0, rfl, by omega, rfl, Below.refl _ _⟩
  obtain ⟨k, rfl, hk, hgk, hb⟩ := hrel
  by_cases hlt : k < names.length
  · obtain ⟨nb, no, hna, c0⟩ := (hn.below hb).str hlt
    have hxz := Hnz.out _ (List.getElem_mem hlt)
    have Hna := Lib.hid hna
    rw [hna]
    clear hna
    generalize names[k] = x at *
    have hEr := hE3.below hb
    have HI := Lib.hid (initialsP_any x wr hEr (by omega))
    have HN := Lib.hid (fun W (h : Below wr.heap.size wr W) => nameOf_any x W (hEr.below h) (by omega))
    have HR := Lib.hid (fun (h : nameB x = true) W (h2 : Below wr.heap.size wr W) => initialsOf_any x W (hEr.below h2) (nameB_ok h).1 (nameB_ok h).2.1 (nameB_ok h).2.2)
    have HV : Hid (initV x = if nameB x = true then joinB (initL (wordsS x)) else ⟨#[]⟩) := rfl
    have HX : Hid (initE x = if nameB x = true then 0 else 3) := rfl
    generalize initV x = y at *
    generalize initE x = ie at *
    generalize joinB (initL (wordsS x)) = jn at *
    generalize nameB x = b at *
    have hk1 : (0 : Int) ≤ (k : Int) := by omega
    have hk2 : (k : Int) < (names.length : Int) := by omega
    cases b
    · have hie := HX.out.trans (if_neg (by decide))
      subst hie
      go_wp2_with fail
      refine HI.out.mono ?_
      rintro e w4 ⟨rfl, hb4⟩
      go_wp2_with fail
      refine (HN.out _ hb4).mono ?_
      rintro e w5 ⟨rfl, hb5⟩
      have hb5' := below_next hb (below_next hb4 hb5)
      go_wp2_with fail
      rw [← Hna.out]
      go_roundg (names.length - (k + 1))
      case measure => have := hgk.out; omega
      case rel => exact ⟨k + 1, by go_num, by omega, rfl, hb5'⟩
    · have hie := HX.out.trans (if_pos rfl)
      subst hie
      have hyy := HV.out.trans (if_pos rfl)
      subst hyy
      have hcc : (y.toList == y.toList) = true := by simp
      go_wp2_with fail
      refine HI.out.mono ?_
      rintro e w4 ⟨rfl, hb4⟩
      go_wp2_with fail
      refine (HN.out _ hb4).mono ?_
      rintro e w5 ⟨rfl, hb5⟩
      have hb45 := below_next hb4 hb5
      go_wp2_with fail
      refine (HR.out (by first | exact trivial | rfl) _ hb45).mono ?_
      rintro e w6 ⟨rfl, hb6⟩
      have hb6' := below_next hb (below_next hb45 hb6)
      go_wp2_with fail
      rw [← Hna.out]
      go_roundg (names.length - (k + 1))
      case measure => have := hgk.out; omega
      case rel => exact ⟨k + 1, by go_num, by omega, rfl, hb6'⟩
  · have hEr := hE3.below hb
    have HA := Lib.hid (anonymity_any t names homes na ha nc hc wr hEr (hn.below hb) (hh.below hb) (by omega) (by omega) (fun x hx => by have := Hnz.out x hx; omega) (fun x hx => by have := Hhz.out x hx; omega) (by omega))
    have HAF := Lib.hid (fun W (h : Below wr.heap.size wr W) => anonFault_any t names homes na ha nc hc W (hEr.below h) ((hn.below hb).below h) ((hh.below hb).below h) (by omega) (by omega) (fun x hx => by have := Hnz.out x hx; omega) (fun x hx => by have := Hhz.out x hx; omega) (by omega))
    have HAO := Lib.hid (fun (h0 : anonE t names homes = 0) W (h : Below wr.heap.size wr W) => anonymityOf_any t names homes na ha nc hc W (hEr.below h) ((hn.below hb).below h) ((hh.below hb).below h) (by omega) (by omega) (anonE_zero h0).1 (anonE_zero h0).2)
    have Hgl : Hid (anonE t names homes = 0 → (compG (sortG (allG t names homes))).length ≤ 1000000000) := fun h0 => giv_len (anonE_zero h0).2 (by omega) (by omega)
    generalize anonE t names homes = E at *
    generalize compG (sortG (allG t names homes)) = gl at *
    clear hn hh
    go_wp2_with fail
    refine HA.out.mono ?_
    rintro e w4 ⟨hb4, hcase⟩
    rcases hcase with ⟨hne, rfl⟩ | ⟨h0, a4, c4, rfl, hsa4⟩
    · have hq : (E == 0) = false := by simpa using hne
      have hqq : (E != E) = false := by simp
      clear HAO Hgl
      go_wp2_with fail
      refine (HAF.out _ hb4).mono ?_
      rintro e w5 ⟨rfl, hb5⟩
      have hbF := below_next hb (below_next hb4 hb5)
      clear HA HAF hb hb4 hb5
      go_wp2_with fail
      refine (gives_any w.heap.size _ n _ (s3.below hbF) (by omega) (by omega)).mono ?_
      rintro e w20 ⟨v20, gs, rfl, hgl, hown20, h20, s20⟩
      have hst20 := (hst3.trans (Stp.of_below hbF)).trans h20
      have hE20 : Env w20 := hE.stp hst20 hES
      have hb9 : Below w.heap.size w w20 := by have := hst20.below; rwa [Nat.min_self] at this
      obtain ⟨ga, gc, rfl, hga, -, -⟩ := hown20.sa
      have HCv := Lib.hid (cover_any t gs ga gc w20 hE20 (by omega) hga (by omega))
      have HCF := Lib.hid (fun W (h : Below w20.heap.size w20 W) => coverFault_any t gs ga gc W (hE20.below h) (by omega) (hga.below h) (by omega))
      have HSub := Lib.hid (fun W (h : Below w20.heap.size w20 W) => submits_any W (hE20.below h))
      have HCO := Lib.hid (fun W (h : Below w20.heap.size w20 W) => coverOf_any t gs ga gc W (hE20.below h) (by omega) (hga.below h) (by omega))
      have HV := Lib.hid (fun h => coverV_ok (s := t) (gs := gs) h)
      generalize coverE t gs = E at *
      generalize coverV t gs = V at *
      generalize covS t (overG gs) = C at *
      clear hst20 h20 s20 hown20 hE20 hga s3 hst3 hES
      go_wp2_with fail
      refine HCv.out.mono ?_
      rintro e w21 ⟨rfl, hb21⟩
      go_wp2_with fail
      refine (HCF.out _ hb21).mono ?_
      rintro e w22 ⟨rfl, hb22⟩
      have hb2022 := below_next hb21 hb22
      go_wp2_with fail
      refine (HSub.out _ hb2022).mono ?_
      rintro e w23 ⟨rfl, hb23⟩
      have hb2023 := below_next hb2022 hb23
      by_cases h0 : E = 0
      · subst h0
        have hv := HV.out rfl
        subst hv
        have hcc : (V.toList == V.toList) = true := by simp
        go_wp2_with fail
        refine (HCO.out _ hb2023).mono ?_
        rintro e w24 ⟨rfl, hb24⟩
        have hb2024 := below_next hb2023 hb24
        go_wp2_with fail
        go_ret
        exact ⟨rfl, hb9.trans (hb2024.mono hb9.size)⟩
      · have hq : (E != 0) = true := by simpa using h0
        have hqq : (E == E) = true := by simp
        go_wp2_with fail
        go_ret
        exact ⟨rfl, hb9.trans (hb2023.mono hb9.size)⟩
    · subst h0
      have hgl := Hgl.out rfl
      replace HAO := Lib.hid (HAO.out rfl)
      go_wp2_with fail
      refine (HAF.out _ hb4).mono ?_
      rintro e w5 ⟨rfl, hb5⟩
      have hb45 := below_next hb4 hb5
      go_wp2_with fail
      refine (HAO.out _ hb45).mono ?_
      rintro e w6 ⟨hb6, a6, c6, rfl, hsa6⟩
      have hb46 := below_next hb45 hb6
      have hsa46 := hsa4.below (below_next hb5 hb6)
      go_wp2_with fail
      refine (eqGive_any gl a4 a6 c4 c6 _ hsa46 hsa6 hgl).mono ?_
      rintro e w7 ⟨rfl, n7, rfl⟩
      have hbF := below_drewN (below_next hb hb46) n7
      clear HA HAF HAO hb hb4 hb5 hsa4 hsa6 hsa46
      go_wp2_with fail
      refine (gives_any w.heap.size _ n _ (s3.below hbF) (by omega) (by omega)).mono ?_
      rintro e w20 ⟨v20, gs, rfl, hgl, hown20, h20, s20⟩
      have hst20 := (hst3.trans (Stp.of_below hbF)).trans h20
      have hE20 : Env w20 := hE.stp hst20 hES
      have hb9 : Below w.heap.size w w20 := by have := hst20.below; rwa [Nat.min_self] at this
      obtain ⟨ga, gc, rfl, hga, -, -⟩ := hown20.sa
      have HCv := Lib.hid (cover_any t gs ga gc w20 hE20 (by omega) hga (by omega))
      have HCF := Lib.hid (fun W (h : Below w20.heap.size w20 W) => coverFault_any t gs ga gc W (hE20.below h) (by omega) (hga.below h) (by omega))
      have HSub := Lib.hid (fun W (h : Below w20.heap.size w20 W) => submits_any W (hE20.below h))
      have HCO := Lib.hid (fun W (h : Below w20.heap.size w20 W) => coverOf_any t gs ga gc W (hE20.below h) (by omega) (hga.below h) (by omega))
      have HV := Lib.hid (fun h => coverV_ok (s := t) (gs := gs) h)
      generalize coverE t gs = E at *
      generalize coverV t gs = V at *
      generalize covS t (overG gs) = C at *
      clear hst20 h20 s20 hown20 hE20 hga s3 hst3 hES
      go_wp2_with fail
      refine HCv.out.mono ?_
      rintro e w21 ⟨rfl, hb21⟩
      go_wp2_with fail
      refine (HCF.out _ hb21).mono ?_
      rintro e w22 ⟨rfl, hb22⟩
      have hb2022 := below_next hb21 hb22
      go_wp2_with fail
      refine (HSub.out _ hb2022).mono ?_
      rintro e w23 ⟨rfl, hb23⟩
      have hb2023 := below_next hb2022 hb23
      by_cases h0 : E = 0
      · subst h0
        have hv := HV.out rfl
        subst hv
        have hcc : (V.toList == V.toList) = true := by simp
        go_wp2_with fail
        refine (HCO.out _ hb2023).mono ?_
        rintro e w24 ⟨rfl, hb24⟩
        have hb2024 := below_next hb2023 hb24
        go_wp2_with fail
        go_ret
        exact ⟨rfl, hb9.trans (hb2024.mono hb9.size)⟩
      · have hq : (E != 0) = true := by simpa using h0
        have hqq : (E == E) = true := by simp
        go_wp2_with fail
        go_ret
        exact ⟨rfl, hb9.trans (hb2023.mono hb9.size)⟩
end Go.Proofs.YthajoedabjfaaaaGreatDoor.authorsFound
