/- Covered texts: of the program. -/
import Derived.Test.YthajoedabjfaaaaGreatDoorAuthR
import Derived.Test.YthajoedabjfaaaaGreatDoorOver2
import Derived.Test.YthajoedabjfaaaaGreatDoorWord1
import Derived.Test.YthajoedabjfaaaaGreatDoorReg
import Derived.Test.YthajoedabjfaaaaGreatDoorShelf
import Derived.Test.YthajoedabjfaaaaGreatDoorName
namespace Go.Proofs.YthajoedabjfaaaaGreatDoor
open Go.RowKit
set_option linter.unusedVariables false
set_option linter.unusedSimpArgs false

/-- One of n marks from i on is set. -/
def anyB (p : Nat → Bool) (i n : Nat) : Bool := (List.range n).any (fun j => p (i + j))
theorem anyB_iff {p : Nat → Bool} {i n : Nat} : anyB p i n = true ↔ ∃ j, j < n ∧ p (i + j) = true := by unfold anyB; simp
theorem anyB_no {p : Nat → Bool} {i n : Nat} (h : ∀ j, j < n → p (i + j) = false) : anyB p i n = false := by
  rw [Bool.eq_false_iff]
  intro e
  obtain ⟨j, hj, hp⟩ := anyB_iff.1 e
  rw [h j hj] at hp
  cases hp
theorem anyB_over {gs : List Gv} {N i n : Nat} (hok : ∀ g ∈ gs, GiveOk N g) (hn : 0 < n) : anyB (hidG gs) i n = overG gs i (i + n) := by
  rw [Bool.eq_iff_iff, anyB_iff, over_hid hok (by omega)]
  constructor
  · rintro ⟨j, h1, h2⟩
    exact ⟨i + j, by omega, by omega, h2⟩
  · rintro ⟨j, h1, h2, h3⟩
    exact ⟨j - i, by omega, by rw [show i + (j - i) = j by omega]; exact h3⟩
set_option maxHeartbeats 2000000 in
theorem indexB_any (p : Nat → Bool) (hb i n N cap : Nat) (w : World) (hM : Marks w hb N p) (hin : i + n ≤ N) (hN : N ≤ 1000000) :
    Calls Tryz.prog 88 #[.slice (some ⟨hb, i, none⟩) n cap, .bool true] w (fun e w' => (∃ z : Int, e = .returned (.int .i64 z) ∧ decide (0 ≤ z) = anyB p i n) ∧ w' = w) := by
  have HM := Lib.hid hM
  have Hy : Hid (∀ k, k < n → p (i + k) = true → anyB p i n = true) := fun k hk h => anyB_iff.2 ⟨k, hk, h⟩
  have Hn : Hid ((∀ k, k < n → p (i + k) = false) → anyB p i n = false) := fun h => anyB_no h
  generalize anyB p i n = res at *
  go_enter Tryz.func88, Tryz.ntmps88
  go_wp2_with fail
  go_loopg [8] n (fun gk j wr => ∃ k : Nat, j = .int .i64 k ∧ k ≤ n ∧ Hid (gk = n - k) ∧ Hid (∀ q, q < k → p (i + q) = false) ∧ wr = w)
  case atStart => exact ⟨0, rfl, by omega, rfl, fun q hq => by omega, rfl⟩
  case round =>
    obtain ⟨k, rfl, hk, hgk, hno, rfl⟩ := hrel
    by_cases hlt : k < n
    · have c0 := HM.out.cell (i := i + k) (by omega)
      have hk1 : (0 : Int) ≤ (k : Int) := by omega
      have hk2 : (k : Int) < (n : Int) := by omega
      obtain ⟨v, hv⟩ : ∃ v, p (i + k) = v := ⟨_, rfl⟩
      rw [hv] at c0
      have Hv := Lib.hid hv
      clear hv
      cases v
      · have Hno2 : Hid (∀ q, q < k + 1 → p (i + q) = false) := fun q hq => by
          by_cases e : q = k
          · rw [e]; exact Hv.out
          · exact hno.out q (by omega)
        go_wp2_with fail
        go_roundg (n - (k + 1))
        case measure => have := hgk.out; omega
        case rel => exact ⟨k + 1, by go_num, by omega, rfl, Hno2, rfl⟩
      · have hr := Hy.out k hlt Hv.out
        go_wp2_with fail
        go_ret
        exact ⟨⟨_, rfl, by rw [hr]; exact decide_eq_true (by omega)⟩, rfl⟩
    · obtain rfl : k = n := by omega
      have hr := Hn.out hno.out
      go_wp2_with fail
      go_ret
      exact ⟨⟨_, rfl, by rw [hr]; decide⟩, rfl⟩
theorem containsB_any (p : Nat → Bool) (hb i n N cap : Nat) (w : World) (hM : Marks w hb N p) (hin : i + n ≤ N) (hN : N ≤ 1000000) :
    Calls Tryz.prog 57 #[.slice (some ⟨hb, i, none⟩) n cap, .bool true] w (fun e w' => e = .returned (.bool (anyB p i n)) ∧ w' = w) := by
  have HI := Lib.hid (indexB_any p hb i n N cap w hM hin hN)
  generalize anyB p i n = res at *
  go_enter Tryz.func57, Tryz.ntmps57
  go_wp2_with fail
  refine HI.out.mono ?_
  rintro e w' ⟨⟨z, rfl, hz⟩, rfl⟩
  go_wp2_with fail
  go_ret
  exact ⟨by first | exact congrArg (fun b => Ending.returned (Value.bool b)) hz | rfl, rfl⟩
def coverV (s : ByteArray) (gs : List Gv) : ByteArray := if coverE s gs ≠ 0 then ⟨#[]⟩ else covS s (overG gs)
theorem hidG_next {gs : List Gv} {k : Nat} (hk : k < gs.length) {q : Nat} (hq : gs[k].2.1 + (q : Int) = gs[k].2.2.1) (j : Nat) : someB (hidG (gs.take k)) gs[k].2.1 q j = hidG (gs.take (k + 1)) j := by
  unfold someB
  rw [List.take_succ_eq_append_getElem hk]
  unfold hidG
  rw [List.any_append, hq]
  simp
theorem cov_set {o r : List UInt8} {d : List UInt8} {i q : Nat} (ho : o.length = i) (hd : i + q < d.length) : (o ++ List.replicate q 120 ++ d.drop (i + q)).set (i + q) 120 = o ++ List.replicate (q + 1) 120 ++ d.drop (i + q + 1) := by
  rw [List.drop_eq_getElem_cons hd, List.set_append_right _ _ (by rw [List.length_append, List.length_replicate]; omega)]
  rw [List.length_append, List.length_replicate, ho, Nat.sub_self, List.set_cons_zero, List.replicate_succ', List.append_assoc, List.append_assoc, List.append_assoc]
  rfl
theorem cov_plain {s : ByteArray} {q : Nat → Nat → Bool} {i : Nat} (h : (wAt s i && q i (i + runeAt s i)) = false) (o : List UInt8) : o ++ s.data.toList.drop i = (o ++ covP s q i) ++ s.data.toList.drop (i + runeAt s i) := by
  have e : covP s q i = (s.extract i (i + runeAt s i)).data.toList := by unfold covP; rw [if_neg (by rw [h]; decide)]
  rw [e, extract_list, List.append_assoc]
  congr 1
  have h1 := List.take_append_drop (runeAt s i) (s.data.toList.drop i)
  rw [List.drop_drop] at h1
  rw [List.drop_take, Nat.add_sub_cancel_left]
  exact h1.symm
theorem cov_hit {s : ByteArray} {q : Nat → Nat → Bool} {i : Nat} (h : (wAt s i && q i (i + runeAt s i)) = true) (o : List UInt8) : covP s q i = List.replicate (runeAt s i) 120 := by unfold covP; rw [if_pos h]
theorem raw_len {s : ByteArray} {i : Nat} {o : List UInt8} (ho : o.length = i) (hi : i ≤ s.size) : (o ++ s.data.toList.drop i).length = s.size := by
  have e : s.size = s.data.toList.length := by simp
  rw [List.length_append, List.length_drop]; omega
set_option maxRecDepth 100000 in
set_option maxHeartbeats 16000000 in
theorem cover_any (s : ByteArray) (gs : List Gv) (ga : Option Addr) (gc : Nat) (w : World) (hE : Env w) (hs : s.size ≤ 1000000) (hg : SA w ga gs) (hl : gs.length ≤ 1000000) :
    Calls Tryz.prog 15 #[.string s, .slice ga gs.length gc] w (fun e w' => e = .returned (.tuple #[.string (coverV s gs), .int .i64 (coverE s gs)]) ∧ Below w.heap.size w w') := by
  have HT := Lib.hid (textFault_any s w hE (by omega))
  have hmk := run_make_len (P := Tryz.prog) 80 4 (.bool false) 1 (by kernel_rfl) Tryz.infoDB rfl s.size (by omega) (by omega)
  have HE : Hid (coverE s gs = if bodyE s ≠ 0 then bodyE s else if gs.any (giveB s.size) = true then 1 else 0) := rfl
  have HV : Hid (coverV s gs = if coverE s gs ≠ 0 then ⟨#[]⟩ else covS s (overG gs)) := rfl
  generalize coverV s gs = cv at *
  generalize coverE s gs = ce at *
  generalize bodyE s = be at *
  by_cases hbe : be = 0
  · subst hbe
    have HE2 := Lib.hid (HE.out.trans (if_neg (by decide)))
    clear HE
    go_enter Tryz.func15, Tryz.ntmps15
    go_wp2_with fail
    refine HT.out.mono ?_
    rintro e W1 ⟨rfl, hb1⟩
    go_wp2_with fail
    go_loopg [28] gs.length (fun gk i wr => ∃ k : Nat, i = .int .i64 k ∧ k ≤ gs.length ∧ Hid (gk = gs.length - k) ∧ Hid (∀ j (hj : j < gs.length), j < k → giveB s.size gs[j] = false) ∧ Marks wr W1.heap.size s.size (fun _ => false) ∧ W1.heap.size < wr.heap.size ∧ Below W1.heap.size W1 wr)
    case atStart => exact ⟨0, rfl, by omega, rfl, fun j hj hj2 => by omega, Marks.new _ _, by simp, (Below.refl _ _).alloc (Nat.le_refl _) _⟩
    obtain ⟨k, rfl, hk, hgk, hno, hM, hsz, hb⟩ := hrel
    by_cases hlt : k < gs.length
    · obtain ⟨gb, go, hge, c0, c1, c2, c3⟩ := ((hg.below hb1).below hb).giv hlt
      have Hge := Lib.hid hge
      rw [hge]
      clear hge
      have Hy : Hid (giveB s.size gs[k] = true → ce = 1 ∧ cv = ⟨#[]⟩) := fun h => by
        have h1 : gs.any (giveB s.size) = true := List.any_eq_true.2 ⟨_, List.getElem_mem hlt, h⟩
        have h2 : ce = 1 := HE2.out.trans (if_pos h1)
        exact ⟨h2, HV.out.trans (if_pos (by omega))⟩
      have Hn : Hid (giveB s.size gs[k] = false → ∀ j (hj : j < gs.length), j < k + 1 → giveB s.size gs[j] = false) := fun h j hj hj2 => by
        by_cases e : j = k
        · subst e; exact h
        · exact hno.out j hj (by omega)
      generalize gs[k] = gv at *
      obtain ⟨x1, x2, x3, x4⟩ := gv
      simp only at c0 c1 c2 c3
      have hd : giveB s.size (x1, x2, x3, x4) = (decide (x2 < 0) || (decide (x3 ≤ x2) || decide ((s.size : Int) < x3))) := rfl
      rw [hd] at Hy Hn
      clear hd
      have hk1 : (0 : Int) ≤ (k : Int) := by omega
      have hk2 : (k : Int) < (gs.length : Int) := by omega
      have hB := Box.new wr 42 #[.int .i64 x1, .int .i64 x2, .int .i64 x3, .string x4]
      have hM1 := hM.alloc (.cells #[.int .i64 x1, .int .i64 x2, .int .i64 x3, .string x4] 42)
      have hb2 : Below W1.heap.size W1 (wr.alloc (.cells #[.int .i64 x1, .int .i64 x2, .int .i64 x3, .string x4] 42)) := by (repeat' (first | exact Below.refl _ _ | assumption | refine Below.setCell ?_ ?_ _ | refine below_drewN ?_ _ | refine Below.drew ?_ | refine Below.alloc ?_ ?_ _ | (with_reducible refine Below.trans ?_ (Below.mono hb ?_)) | (with_reducible refine Below.trans ?_ (Below.mono hb0 ?_)) | (with_reducible refine Below.trans ?_ (Below.mono hb1 ?_)) | (with_reducible refine Below.trans ?_ (Below.mono hb2 ?_)) | (with_reducible refine Below.trans ?_ (Below.mono hb3 ?_)) | (with_reducible refine Below.trans ?_ (Below.mono hb4 ?_)) | (with_reducible refine Below.trans ?_ (Below.mono hb5 ?_)) | (with_reducible refine Below.trans ?_ (Below.mono hb6 ?_)) | (with_reducible refine Below.trans ?_ (Below.mono hb7 ?_)) | (with_reducible refine Below.trans ?_ (Below.mono hb8 ?_)) | (with_reducible refine Below.trans ?_ (Below.mono hb9 ?_)) | (with_reducible refine Below.trans ?_ (Below.mono hb10 ?_)) | (with_reducible refine Below.trans ?_ (Below.mono hb11 ?_)) | (with_reducible refine Below.trans ?_ (Below.mono hb12 ?_)) | (with_reducible refine Below.trans ?_ (Below.mono hb13 ?_)) | (with_reducible refine Below.trans ?_ (Below.mono hb14 ?_)) | (with_reducible refine Below.trans ?_ (Below.mono hb15 ?_)) | omega | (simp; done) | (simp; omega)))
      have hsz1 : W1.heap.size < (wr.alloc (.cells #[.int .i64 x1, .int .i64 x2, .int .i64 x3, .string x4] 42)).heap.size := by simp; omega
      have hB_l := hB.lt; have hB_0 := hB.cell 0; have hB_1 := hB.cell 1; have hB_2 := hB.cell 2; have hB_3 := hB.cell 3; simp at hB_0 hB_1 hB_2 hB_3
      clear hM hb hsz
      go_wp2_with fail
      all_goals first
        | (rw [← Hge.out]
           go_roundg (gs.length - (k + 1))
           case measure => have := hgk.out; omega
           case rel => exact ⟨k + 1, by go_num, by omega, rfl, Hn.out (by simp at *; omega), hM1, hsz1, hb2⟩)
        | (go_ret2
           obtain ⟨r1, r2⟩ := Hy.out (by simp at *; omega)
           exact ⟨by rw [r1, r2] <;> rfl, below_next hb1 hb2⟩)
    · obtain rfl : k = gs.length := by omega
      have Hok : Hid (∀ g ∈ gs, GiveOk s.size g) := fun g hg' => by
        obtain ⟨j, hj, rfl⟩ := List.mem_iff_getElem.1 hg'
        exact giveB_ok (hno.out j hj hj)
      have hce : ce = 0 := by
        rw [HE2.out, if_neg]
        rw [List.any_eq_true]
        rintro ⟨g, hg', h⟩
        obtain ⟨j, hj, rfl⟩ := List.mem_iff_getElem.1 hg'
        rw [hno.out j hj hj] at h
        cases h
      have hcv : cv = covS s (overG gs) := HV.out.trans (if_neg (by omega))
      clear HE2 HV hno hgk hlt hk
      subst hce
      have hcv2 := Lib.hid hcv
      clear hcv
      have hb01 : Below w.heap.size w wr := below_next hb1 hb
      have hgW := hg.below hb1
      have HEr := Lib.hid (hE.below hb01)
      clear HT hmk hg
      go_wp2_with fail
      generalize hWr : wr = W2 at *
      go_loopg [56] gs.length (fun gk i wr => ∃ k : Nat, i = .int .i64 k ∧ k ≤ gs.length ∧ Hid (gk = gs.length - k) ∧ Marks wr W1.heap.size s.size (hidG (gs.take k)) ∧ W1.heap.size < wr.heap.size ∧ Below W1.heap.size W1 wr)
      case atStart => exact ⟨0, rfl, by omega, rfl, hM.congr (fun i _ => by rw [List.take_zero]; rfl), hsz, hb⟩
      clear hM hsz hb hb01
      obtain ⟨k, rfl, hk, hgk, hM, hsz, hb⟩ := hrel
      by_cases hlt : k < gs.length
      · obtain ⟨gb, go, hge, c0, c1, c2, c3⟩ := (hgW.below hb).giv hlt
        have Hge := Lib.hid hge
        rw [hge]
        clear hge
        have hgo := Hok.out _ (List.getElem_mem hlt)
        have HNx := Lib.hid (fun q h j => hidG_next hlt (q := q) h j)
        obtain ⟨v0, hv0⟩ : ∃ v, hidG (gs.take k) = v := ⟨_, rfl⟩
        rw [hv0] at hM HNx
        clear hv0
        generalize gs[k] = gv at *
        obtain ⟨x1, x2, x3, x4⟩ := gv
        unfold GiveOk at hgo
        simp only at c0 c1 c2 c3 hgo HNx
        have hk1 : (0 : Int) ≤ (k : Int) := by omega
        have hk2 : (k : Int) < (gs.length : Int) := by omega
        generalize wr = wo at *
        have hB := Box.new wo 42 #[.int .i64 x1, .int .i64 x2, .int .i64 x3, .string x4]
        have hM1 := hM.alloc (.cells #[.int .i64 x1, .int .i64 x2, .int .i64 x3, .string x4] 42)
        have hb2 : Below W1.heap.size W1 (wo.alloc (.cells #[.int .i64 x1, .int .i64 x2, .int .i64 x3, .string x4] 42)) := by (repeat' (first | exact Below.refl _ _ | assumption | refine Below.setCell ?_ ?_ _ | refine below_drewN ?_ _ | refine Below.drew ?_ | refine Below.alloc ?_ ?_ _ | (with_reducible refine Below.trans ?_ (Below.mono hb ?_)) | (with_reducible refine Below.trans ?_ (Below.mono hb0 ?_)) | (with_reducible refine Below.trans ?_ (Below.mono hb1 ?_)) | (with_reducible refine Below.trans ?_ (Below.mono hb2 ?_)) | (with_reducible refine Below.trans ?_ (Below.mono hb3 ?_)) | (with_reducible refine Below.trans ?_ (Below.mono hb4 ?_)) | (with_reducible refine Below.trans ?_ (Below.mono hb5 ?_)) | (with_reducible refine Below.trans ?_ (Below.mono hb6 ?_)) | (with_reducible refine Below.trans ?_ (Below.mono hb7 ?_)) | (with_reducible refine Below.trans ?_ (Below.mono hb8 ?_)) | (with_reducible refine Below.trans ?_ (Below.mono hb9 ?_)) | (with_reducible refine Below.trans ?_ (Below.mono hb10 ?_)) | (with_reducible refine Below.trans ?_ (Below.mono hb11 ?_)) | (with_reducible refine Below.trans ?_ (Below.mono hb12 ?_)) | (with_reducible refine Below.trans ?_ (Below.mono hb13 ?_)) | (with_reducible refine Below.trans ?_ (Below.mono hb14 ?_)) | (with_reducible refine Below.trans ?_ (Below.mono hb15 ?_)) | omega | (simp; done) | (simp; omega)))
        have hsz1 : wo.heap.size < (wo.alloc (.cells #[.int .i64 x1, .int .i64 x2, .int .i64 x3, .string x4] 42)).heap.size := by simp
        have hB_l := hB.lt; have hB_0 := hB.cell 0; have hB_1 := hB.cell 1; have hB_2 := hB.cell 2; have hB_3 := hB.cell 3; simp at hB_0 hB_1 hB_2 hB_3
        clear hM hb
        obtain ⟨fn, hfn⟩ : ∃ fn : Nat, x2 = (fn : Int) := ⟨x2.toNat, by omega⟩
        obtain ⟨tn, htn⟩ : ∃ tn : Nat, x3 = (tn : Int) := ⟨x3.toNat, by omega⟩
        subst hfn htn
        go_wp2_with fail
        clear hB_0 hB_1 hB_2 hB_3
        go_loopg [12] (tn - fn) (fun gq i wr => ∃ q j : Nat, i = .int .i64 j ∧ Hid (j = fn + q) ∧ fn + q ≤ tn ∧ Hid (gq = tn - fn - q) ∧ Marks wr W1.heap.size s.size (someB v0 fn q) ∧ Box wr wo.heap.size 42 #[.int .i64 x1, .int .i64 fn, .int .i64 tn, .string x4] ∧ Below W1.heap.size W1 wr)
        case atStart => exact ⟨0, fn, rfl, rfl, by omega, rfl, hM1.congr (fun i _ => (someB_zero v0 fn i).symm), hB, hb2⟩
        clear hM1 hB hb2
        obtain ⟨q, j, rfl, hj, hq, hgq, hM, hB, hb⟩ := hrel
        have hB_l := hB.lt; have hB_0 := hB.cell 0; have hB_1 := hB.cell 1; have hB_2 := hB.cell 2; have hB_3 := hB.cell 3; simp at hB_0 hB_1 hB_2 hB_3
        by_cases hq2 : fn + q < tn
        · have hjn : (j : Int) < (tn : Int) := by have := hj.out; omega
          have hj1 : (0 : Int) ≤ (j : Int) := by omega
          have hj2 : (j : Int) < (s.size : Int) := by omega
          have hjs : j < s.size := by omega
          have hfr := hM.frozen j
          have hc := hM.cell hjs
          have Hs := Lib.hid (fun i => someB_succ v0 (a := (fn : Int)) (i := j) q (by have := hj.out; omega) i)
          have hM3 := (hM.put hjs).congr (fun i _ => Hs.out i)
          have hB3 := hB.setOther (p := ⟨W1.heap.size, j, none⟩) (by show W1.heap.size ≠ wo.heap.size; omega) (.bool true)
          have hb3 := hb.setCell (p := ⟨W1.heap.size, j, none⟩) (Nat.le_refl _) (.bool true)
          go_wp2_with fail
          go_roundg (tn - fn - (q + 1))
          case measure => have := hgq.out; omega
          case rel => exact ⟨q + 1, j + 1, by go_num, by show _ = _; rw [hj.out]; omega, by omega, rfl, hM3, hB3, hb3⟩
        · have hjn : ¬ (j : Int) < (tn : Int) := by have := hj.out; omega
          have hM3 := hM.congr (fun i _ => HNx.out q (by omega) i)
          have hsz3 : W1.heap.size < wr.heap.size := by have := hB.lt; omega
          go_wp2_with fail
          rw [← Hge.out]
          go_roundg (gs.length - (k + 1))
          case measure => have := hgk.out; omega
          case rel => exact ⟨k + 1, by go_num, by omega, rfl, hM3, hsz3, hb⟩
      · obtain rfl : k = gs.length := by omega
        rw [List.take_length] at hM
        have hcvx := Lib.run_convert_string_bytes (P := Tryz.prog) wr 9 81 5 s (u := .string) Tryz.underlying9 Tryz.underlying81 Tryz.underlying5
        have hbb := bytesWorld_below wr 5 s
        have hraw := Raw.bytes wr 5 s
        have hMb := hM.below hbb
        have hbw := hb.trans (hbb.mono hb.size)
        generalize Lib.bytesWorld wr 5 s = wb at *
        generalize grownCap wr s.size 0 5 = cp at *
        go_wp2_with fail
        clear hcvx hM hb hbb hgk
        generalize wr.heap.size = rb at *
        have HM0 := Lib.hid (fun W i n (h : Marks W W1.heap.size s.size (hidG gs)) (hi : i + n ≤ s.size) => containsB_any (hidG gs) W1.heap.size i n s.size (s.size - i) W h hi hs)
        have HAo := Lib.hid (fun i n (hn : 0 < n) => anyB_over (N := s.size) (i := i) (n := n) Hok.out hn)
        have hE1 := hE.below hb1
        have HDc := Lib.hid (fun W i (h : Env W) => decode_any (s.extract i s.size) W h)
        have HIw := Lib.hid (fun c W (h : c < 256) => isWordByte_any c W h)
        have HNo := Lib.hid (fun i o (h : (wAt s i && overG gs i (i + runeAt s i)) = false) => cov_plain h o)
        have HYe := Lib.hid (fun i o (h : (wAt s i && overG gs i (i + runeAt s i)) = true) => cov_hit h o)
        have HCs := Lib.hid (fun (o : List UInt8) i q (ho : o.length = i) (hd : i + q < s.data.toList.length) => cov_set (r := []) ho hd)
        have HRl := Lib.hid (fun i (o : List UInt8) (ho : o.length = i) (hi : i ≤ s.size) => raw_len ho hi)
        have HNx := Lib.hid (fun i o (h : CovAt s (overG gs) i o) (hi : i < s.size) => h.next hi)
        have HDn := Lib.hid (fun i o (h : CovAt s (overG gs) i o) (hi : ¬ i < s.size) => h.done hi)
        have HLn := Lib.hid (fun i o (h : CovAt s (overG gs) i o) => h.1)
        have HRp := Lib.hid (fun i (h : i < s.size) => And.intro (runeAt_pos h) (runeAt_le s i h))
        have HRn : Hid (∀ i, runeN (s.extract i s.size) = runeAt s i) := fun i => rfl
        have Hsl := Lib.hid (show s.data.toList.length = s.size by simp)
        have Hcv : Hid (covS s (overG gs) = ⟨(covL s (overG gs)).toArray⟩) := rfl
        have Hc0 := Lib.hid (CovAt.start s (overG gs))
        go_loopg [14] s.size (fun gk i wr => ∃ (k : Nat) (o : List UInt8), i = .int .i64 k ∧ k ≤ s.size ∧ Hid (gk = s.size - k) ∧ Hid (CovAt s (overG gs) k o) ∧ Raw wr rb (o ++ s.data.toList.drop k) ∧ Marks wr W1.heap.size s.size (hidG gs) ∧ Below W1.heap.size W1 wr)
        case atStart => exact ⟨0, [], rfl, by omega, rfl, Hc0.out, by simpa using hraw, hMb, hbw⟩
        clear hraw hMb hbw Hc0
        obtain ⟨k, o, rfl, hk, hgk, hca, hraw, hM, hb⟩ := hrel
        have hol := HLn.out k o hca.out
        have hrl := HRl.out k o hol hk
        by_cases hlt : k < s.size
        · have hEr := hE1.below hb
          have HD := Lib.hid (HDc.out wr k hEr)
          rw [HRn.out k] at HD
          obtain ⟨hp1, hp2⟩ := HRp.out k hlt
          have Hno := Lib.hid (HNo.out k o)
          have Hye := Lib.hid (HYe.out k o)
          have hnx := Lib.hid (HNx.out k o hca.out hlt)
          have hwa := wAt_in hlt
          have Hao := Lib.hid (HAo.out k (runeAt s k) (by omega))
          generalize covP s (overG gs) k = cp1 at *
          generalize runeAt s k = n at *
          generalize (Lib.decodeGo (s.extract k s.size)).1 = rr at *
          have hcl := s[k].toNat_lt
          generalize hcc : s[k].toNat = c at *
          have HI := Lib.hid (fun W => HIw.out c W (by omega))
          rw [hwa] at Hno Hye
          clear hwa
          have hk1 : (0 : Int) ≤ (k : Int) := by omega
          have hk2 : (k : Int) < (s.size : Int) := by omega
          have hk3 : (k : Int) ≤ (s.size : Int) := by omega
          obtain ⟨kn, hkn⟩ : ∃ kn, k + n = kn := ⟨_, rfl⟩
          have hwkn : IntKind.i64.wrap ((k : Int) + (n : Int)) = (kn : Int) := by rw [IntWalk.i64_in _ (by omega)]; omega
          rw [hkn] at Hno Hye hnx Hao hp2
          have hp3 : (kn : Int) ≤ (s.size : Int) := by omega
          have hp4 : (k : Int) ≤ (kn : Int) := by omega
          have Hkn := Lib.hid hkn
          have Hnk := Lib.hid (show kn - k = n by omega)
          clear hkn
          go_wp2_with fail
          refine HD.out.mono ?_
          rintro e w3 ⟨rfl, hb3⟩
          have hraw3 : Raw w3 rb (o ++ s.data.toList.drop k) := by
            obtain ⟨cs, T, m1, m2, h1, h2, h3⟩ := hraw
            exact ⟨cs, T, m1, m2, by rw [hb3.block _ (Array.getElem?_eq_some_iff.1 h1).1]; exact h1, h2, h3⟩
          have hM3 := hM.below hb3
          have hb03 := below_next hb hb3
          clear hraw hM hb hb3 HD hEr
          cases hwc : wordC c
          · rw [hwc] at HI Hno
            have hno := Hno.out rfl
            rw [hno] at hraw3
            clear Hno Hye hno hwc
            go_wp2_with fail
            refine (HI.out _).mono ?_
            rintro e w4 ⟨rfl, rfl⟩
            go_wp2_with fail
            go_roundg (s.size - kn)
            case measure => have := hgk.out; have := Hkn.out; omega
            case rel => exact ⟨kn, o ++ cp1, by go_num, by omega, rfl, hnx.out, hraw3, hM3, hb03⟩
          · rw [hwc] at HI Hno Hye
            have HC := Lib.hid (HM0.out w3 k n hM3 (by have := Hkn.out; omega))
            rw [Hao.out] at HC
            cases hov : overG gs k kn
            · rw [hov] at HC Hno
              have hno := Hno.out rfl
              rw [hno] at hraw3
              clear Hno Hye hno hwc hov
              go_wp2_with fail
              refine (HI.out _).mono ?_
              rintro e w4 ⟨rfl, rfl⟩
              go_wp2_with fail
              rw [Hnk.out]
              refine HC.out.mono ?_
              rintro e w5 ⟨rfl, rfl⟩
              go_wp2_with fail
              go_roundg (s.size - kn)
              case measure => have := hgk.out; have := Hkn.out; omega
              case rel => exact ⟨kn, o ++ cp1, by go_num, by omega, rfl, hnx.out, hraw3, hM3, hb03⟩
            · rw [hov] at HC Hye
              have hye := Hye.out rfl
              clear Hno Hye hwc hov
              go_wp2_with fail
              refine (HI.out _).mono ?_
              rintro e w4 ⟨rfl, rfl⟩
              go_wp2_with fail
              rw [Hnk.out]
              refine HC.out.mono ?_
              rintro e w5 ⟨rfl, rfl⟩
              go_wp2_with fail
              go_loopg [101] n (fun gq i wr => ∃ q : Nat, i = .int .i64 q ∧ q ≤ n ∧ Hid (gq = n - q) ∧ Raw wr rb (o ++ List.replicate q 120 ++ s.data.toList.drop (k + q)) ∧ Marks wr W1.heap.size s.size (hidG gs) ∧ Below W1.heap.size W1 wr)
              case atStart => exact ⟨0, rfl, by omega, rfl, by simpa using hraw3, hM3, hb03⟩
              clear hraw3 hM3 hb03
              obtain ⟨q, rfl, hq, hgq, hraw, hM, hb⟩ := hrel
              by_cases hq2 : q < n
              · have hkq : k + q < s.size := by have := Hkn.out; omega
                have hset := hraw.set (k + q) 120
                rw [HCs.out o k q hol (by rw [Hsl.out]; exact hkq)] at hset
                have hrlen : k + q < (o ++ List.replicate q 120 ++ s.data.toList.drop (k + q)).length := by
                  have := Hsl.out
                  rw [List.length_append, List.length_append, List.length_drop, List.length_replicate]; omega
                have hfr := hraw.frozen hrlen
                obtain ⟨oc, hc⟩ : ∃ oc : Value, wr.cell? ⟨rb, k + q, none⟩ = some oc := ⟨_, hraw.cell hrlen⟩
                have hM4 := hM.putOther (a := ⟨rb, k + q, none⟩) (by show rb ≠ W1.heap.size; omega) (.int .u8 120)
                have hb4 := hb.setCell (p := ⟨rb, k + q, none⟩) (by show W1.heap.size ≤ rb; omega) (.int .u8 120)
                obtain ⟨kq, hkqe⟩ : ∃ kq, k + q = kq := ⟨_, rfl⟩
                have Hkq := Lib.hid (show k + (q + 1) = k + q + 1 from rfl)
                rw [hkqe] at hset hfr hc hM4 hb4 hkq Hkq
                have hwkq : IntKind.i64.wrap ((k : Int) + (q : Int)) = (kq : Int) := by rw [IntWalk.i64_in _ (by omega)]; omega
                clear hkqe
                have hkq0 : (0 : Int) ≤ (kq : Int) := by omega
                have hkq1 : (kq : Int) < (s.size : Int) := by omega
                have hq0 : (q : Int) < (n : Int) := by omega
                have hn6 : n ≤ 1000000 := by have := Hkn.out; omega
                rw [← Hkq.out] at hset
                clear hraw hM hb
                go_wp2_with fail
                go_roundg (n - (q + 1))
                case measure => have := hgq.out; omega
                case rel => exact ⟨q + 1, by go_num, by omega, rfl, hset, hM4, hb4⟩
              · obtain rfl : q = n := by omega
                rw [Hkn.out, ← hye] at hraw
                go_wp2_with fail
                go_roundg (s.size - kn)
                case measure => have := hgk.out; have := Hkn.out; omega
                case rel => exact ⟨kn, o ++ cp1, by go_num, by omega, rfl, hnx.out, hraw, hM, hb⟩
        · obtain rfl : k = s.size := by omega
          have hdo := HDn.out _ o hca.out hlt
          rw [← Hsl.out, List.drop_length, List.append_nil] at hraw
          have hcb := hraw.string (P := Tryz.prog) 81 9 5 cp Tryz.underlying81 Tryz.underlying5 Tryz.underlying9
          rw [hol, hdo] at hcb
          have hres := hcv2.out.trans Hcv.out
          go_wp2_with fail
          go_ret2
          exact ⟨by rw [hres] <;> rfl, below_next hb1 hb⟩
  · have hce : ce = be := HE.out.trans (if_pos hbe)
    have hcv : cv = ⟨#[]⟩ := HV.out.trans (if_pos (by rw [hce]; exact hbe))
    subst hce hcv
    clear HE HV
    go_enter Tryz.func15, Tryz.ntmps15
    go_wp2_with fail
    refine HT.out.mono ?_
    rintro e W1 ⟨rfl, hb1⟩
    go_wp2_with fail
    go_ret2
    exact ⟨rfl, hb1⟩
end Go.Proofs.YthajoedabjfaaaaGreatDoor
