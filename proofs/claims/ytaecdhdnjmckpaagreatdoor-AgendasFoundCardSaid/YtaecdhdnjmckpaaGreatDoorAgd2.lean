/- What a person hears at best: closures; the reference. -/
import Derived.Test.YtaecdhdnjmckpaaGreatDoorGridQ
import Derived.Test.YtaecdhdnjmckpaaGreatDoorTotC
import Derived.Test.YtaecdhdnjmckpaaGreatDoorCmpF
import Derived.Test.YtaecdhdnjmckpaaGreatDoorReg
import Derived.Test.YtaecdhdnjmckpaaGreatDoorGridR2
import Derived.Test.YtaecdhdnjmckpaaGreatDoorRegF
import Derived.Test.YtaecdhdnjmckpaaGreatDoorSame
import Derived.Test.YtaecdhdnjmckpaaGreatDoorSort
import Derived.Test.YtaecdhdnjmckpaaGreatDoorNest
namespace Go.Proofs.YtaecdhdnjmckpaaGreatDoor
set_option linter.unusedVariables false
set_option linter.unusedSimpArgs false
/-- Bit k of a number. -/
def bitB (set k : Nat) : Bool := set.testBit k
/-- The chosen ones among the first k. -/
def subTo (all : List Nat) (set : Nat) : Nat → List Nat
  | 0 => []
  | k + 1 => subTo all set k ++ if bitB set k = true then [all.getD k 0] else []
/-- No two of them meet. -/
def freeTo (mt : Nat → Nat → Bool) (all : List Nat) (set : Nat) : Nat → Bool
  | 0 => true
  | k + 1 => if bitB set k = true then freeTo mt all set k && (subTo all set k).all (fun o => !mt o (all.getD k 0)) else freeTo mt all set k
def sumN (cn : Nat → Nat) (l : List Nat) : Nat := (l.map cn).foldl (· + ·) 0
theorem sumN_snoc (cn : Nat → Nat) (l : List Nat) (x : Nat) : sumN cn (l ++ [x]) = sumN cn l + cn x := by
  unfold sumN
  rw [List.map_append, List.foldl_append]
  rfl
def frTo (mt : Nat → Nat → Bool) (l : List Nat) : Nat → Bool
  | 0 => true
  | a + 1 => frTo mt l a && (l.take a).all (fun k => !mt (l.getD a 0) k)
theorem frTo_append (mt : Nat → Nat → Bool) (l r : List Nat) : ∀ a, a ≤ l.length → frTo mt (l ++ r) a = frTo mt l a
  | 0, _ => rfl
  | a + 1, h => by
    unfold frTo
    rw [frTo_append mt l r a (by omega), List.take_append_of_le_length (by omega), List.getD_eq_getElem?_getD, List.getD_eq_getElem?_getD, List.getElem?_append_left (by omega)]
theorem ok_fr {mt : Nat → Nat → Bool} (hs : ∀ a b, mt a b = mt b a) (all : List Nat) (set : Nat) : ∀ k, freeTo mt all set k = frTo mt (subTo all set k) (subTo all set k).length
  | 0 => rfl
  | k + 1 => by
    have ih := ok_fr hs all set k
    unfold freeTo
    by_cases hb : bitB set k = true
    · rw [if_pos hb]
      have e : subTo all set (k + 1) = subTo all set k ++ [all.getD k 0] := by
        show subTo all set k ++ (if bitB set k = true then [all.getD k 0] else []) = _
        rw [if_pos hb]
      rw [e, List.length_append, List.length_singleton]
      unfold frTo
      rw [frTo_append _ _ _ _ (Nat.le_refl _), ← ih, List.take_append_of_le_length (Nat.le_refl _), List.take_length, show (subTo all set k ++ [all.getD k 0]).getD (subTo all set k).length 0 = all.getD k 0 from by rw [List.getD_eq_getElem?_getD, List.getElem?_append_right (Nat.le_refl _), Nat.sub_self]; rfl]
      congr 1
      congr 1
      funext o
      rw [hs]
    · have e : subTo all set (k + 1) = subTo all set k := by
        show subTo all set k ++ (if bitB set k = true then [all.getD k 0] else []) = _
        rw [if_neg hb, List.append_nil]
      rw [if_neg hb, e, ih]
/-- Two lists of numbers, one against the other. -/
def cmpL : List Nat → List Nat → Int
  | [], [] => 0
  | [], _ :: _ => -1
  | _ :: _, [] => 1
  | x :: r, y :: s => if Lib.compareInt x y ≠ 0 then Lib.compareInt x y else cmpL r s
theorem cmpL_at {l m : List Nat} : ∀ k, k ≤ l.length → k ≤ m.length → (∀ i, i < k → l[i]? = m[i]?) → cmpL l m = cmpL (l.drop k) (m.drop k) := by
  intro k
  induction k generalizing l m with
  | zero => intro _ _ _; rfl
  | succ k ih =>
    intro h1 h2 h
    cases l with
    | nil => simp at h1
    | cons x r =>
      cases m with
      | nil => simp at h2
      | cons y s =>
        have e := h 0 (by omega)
        simp only [List.getElem?_cons_zero, Option.some.injEq] at e
        subst e
        have hz : Lib.compareInt (x : Int) (x : Int) = 0 := by unfold Lib.compareInt; simp
        show (if Lib.compareInt (x : Int) (x : Int) ≠ 0 then _ else cmpL r s) = _
        rw [if_neg (fun h => h hz)]
        exact ih (by simpa using h1) (by simpa using h2) (fun i hi => by have := h (i + 1) (by omega); simpa using this)
/-- How good a choice is: papers, sessions. -/
abbrev Chc := Nat × List Nat
def btrB (a b : Chc) : Bool := decide (firstOf [Lib.compareInt (b.1 : Int) (a.1 : Int), Lib.compareInt (a.2.length : Int) (b.2.length : Int), cmpL a.2 b.2] < 0)
/-- The best of the first sets. -/
def bestSet (mt : Nat → Nat → Bool) (cn : Nat → Nat) (all : List Nat) : Nat → Chc
  | 0 => (0, [])
  | s + 1 => if (freeTo mt all s all.length && btrB (sumN cn (subTo all s all.length), subTo all s all.length) (bestSet mt cn all s)) = true then (sumN cn (subTo all s all.length), subTo all s all.length) else bestSet mt cn all s
theorem bestSet_sum (mt : Nat → Nat → Bool) (cn : Nat → Nat) (all : List Nat) : ∀ s, (bestSet mt cn all s).1 = sumN cn (bestSet mt cn all s).2
  | 0 => rfl
  | s + 1 => by
    unfold bestSet
    split
    · rfl
    · exact bestSet_sum mt cn all s
theorem subTo_mem {all : List Nat} {set : Nat} : ∀ k, k ≤ all.length → ∀ x ∈ subTo all set k, x ∈ all.take k
  | 0, _, x, hx => by cases hx
  | k + 1, h, x, hx => by
    have e : subTo all set (k + 1) = subTo all set k ++ (if bitB set k = true then [all.getD k 0] else []) := rfl
    rw [e] at hx
    rcases List.mem_append.1 hx with hx | hx
    · exact List.mem_of_mem_take (i := k) (by
        have := subTo_mem k (by omega) x hx
        rw [List.take_take, Nat.min_eq_left (Nat.le_succ k)]
        exact this)
    · split at hx
      · rw [List.mem_singleton.1 hx, List.getD_eq_getElem?_getD, List.getElem?_eq_getElem (by omega), Option.getD_some]
        exact List.mem_take_iff_getElem.2 ⟨k, by omega, rfl⟩
      · cases hx
theorem subTo_len (all : List Nat) (set : Nat) : ∀ k, (subTo all set k).length ≤ k
  | 0 => Nat.le_refl _
  | k + 1 => by
    have ih := subTo_len all set k
    have e : subTo all set (k + 1) = subTo all set k ++ (if bitB set k = true then [all.getD k 0] else []) := rfl
    rw [e, List.length_append]
    split <;> simp <;> omega
/-! The sessions that have what somebody wishes. -/
def wishIn (wish : List ByteArray) (s : Ses) : List ByteArray := wish.filter (inB s.papers)
def heardIn (wish : List ByteArray) (s : Ses) : List ByteArray := s.papers.filter (inB wish)
def someL (wish : List ByteArray) (p : List Ses) : List Nat := (List.range p.length).filter (fun i => match p[i]? with | some s => sharesB wish s.papers | none => false)
theorem perm_in {a b : List ByteArray} (ha : a.Nodup) (hb : b.Nodup) : (a.filter (inB b)).Perm (b.filter (inB a)) := by
  refine (List.perm_ext_iff_of_nodup (ha.filter _) (hb.filter _)).2 (fun x => ?_)
  rw [List.mem_filter, List.mem_filter]
  have h : ∀ l : List ByteArray, inB l x = true ↔ x ∈ l := fun l => by unfold inB; rw [List.any_eq_true]; exact ⟨fun ⟨y, hy, e⟩ => by rw [← of_decide_eq_true e]; exact hy, fun h => ⟨x, h, decide_eq_true rfl⟩⟩
  rw [h, h]
  exact And.comm
end Go.Proofs.YtaecdhdnjmckpaaGreatDoor
namespace Go.Proofs.YtaecdhdnjmckpaaGreatDoor
open Go.RowKit
set_option linter.unusedVariables false
set_option linter.unusedSimpArgs false
instance instCelNat : Cel Nat := ⟨1, fun n => [.int .i64 (n : Nat)], fun _ => rfl, by decide, by simp [Value.oneCell']⟩
theorem SA.natC {w : World} {a : Option Addr} {l : List Nat} (h : SA w a l) {i : Nat} (hi : i < l.length) :
    ∃ b off, a = some ⟨b, off, none⟩ ∧ w.cell? ⟨b, off + i, none⟩ = some (.int .i64 (l[i] : Nat)) := by
  obtain ⟨b, off, ha, hc⟩ := h.at hi
  refine ⟨b, off, ha, ?_⟩
  have h0 := hc 0 (by decide)
  have e : i * Cel.k Nat + 0 = i := by show i * 1 + 0 = i; omega
  rw [e] at h0
  exact h0
theorem cmpL_hit {l m : List Nat} {k : Nat} (h1 : k < l.length) (h2 : k < m.length) (h : ∀ i, i < k → l[i]? = m[i]?) (hc : Lib.compareInt (l[k] : Int) (m[k] : Int) ≠ 0) : cmpL l m = Lib.compareInt (l[k] : Int) (m[k] : Int) := by
  rw [cmpL_at k (by omega) (by omega) h, List.drop_eq_getElem_cons h1, List.drop_eq_getElem_cons h2]
  exact if_pos hc
theorem compareI_zero {a b : Int} (h : Lib.compareInt a b = 0) : a = b := by
  unfold Lib.compareInt at h
  repeat' split at h
  all_goals first | (exfalso; omega) | omega
set_option maxRecDepth 100000 in
set_option maxHeartbeats 2000000 in
theorem compareL_any (l m : List Nat) (a b : Option Addr) (c d : Nat) (w : World) (hl : SA w a l) (hm : SA w b m) (hll : l.length ≤ 1000000) (hml : m.length ≤ 1000000) :
    Calls Tryz.prog 103 #[.slice a l.length c, .slice b m.length d] w (fun e w' => e = .returned (.int .i64 (cmpL l m)) ∧ w' = w) := by
  have HC := Lib.hid (fun x y => Tryz.cmp_Compare_int x y w)
  obtain ⟨R, hR⟩ : ∃ R, R = cmpL l m := ⟨_, rfl⟩
  have HR := Lib.hid hR
  rw [← hR]
  clear hR
  go_enter Tryz.func103, Tryz.ntmps103
  go_wp2_with fail
  go_loopg [11] l.length (fun gk i wr => ∃ k : Nat, i = .int .i64 k ∧ k ≤ l.length ∧ k ≤ m.length ∧ Hid (gk = l.length - k) ∧ Hid (∀ i, i < k → l[i]? = m[i]?) ∧ wr = w)
  case atStart => exact ⟨0, rfl, by omega, by omega, rfl, (fun i hi => by omega), rfl⟩
  case round =>
    obtain ⟨k, rfl, hk, hkm, hgk, hsm, rfl⟩ := hrel
    have hk0 : (0 : Int) ≤ (k : Int) := by omega
    by_cases hlt : k < l.length
    · obtain ⟨lb, lo, hla, c0⟩ := hl.natC hlt
      by_cases hmt : k < m.length
      · obtain ⟨mb, mo, hma, d0⟩ := hm.natC hmt
        have Hhit := Lib.hid (cmpL_hit hlt hmt hsm.out)
        have Hz : Hid (Lib.compareInt (l[k] : Int) (m[k] : Int) = 0 → ∀ i, i < k + 1 → l[i]? = m[i]?) := fun h i hi => by
          by_cases e : i = k
          · subst e
            rw [List.getElem?_eq_getElem hlt, List.getElem?_eq_getElem hmt]
            congr 1
            have := compareI_zero h
            omega
          · exact hsm.out i (by omega)
        have Hla := Lib.hid hla
        have Hma := Lib.hid hma
        rw [hla, hma]
        clear hla hma
        generalize l[k] = x at *
        generalize m[k] = y at *
        have hc2 : (k : Int) < (m.length : Int) := by omega
        have hc3 : decide ((m.length : Int) ≤ (k : Int)) = false := decide_eq_false (by omega)
        go_wp2_with fail
        refine (HC.out _ _).mono ?_
        rintro e w1 ⟨rfl, rfl⟩
        generalize hci : Lib.compareInt (x : Int) (y : Int) = ci at *
        by_cases h0 : ci = 0
        · have Hs2 := Lib.hid (Hz.out h0)
          subst h0
          clear Hhit Hz
          go_wp2_with fail
          rw [← Hla.out, ← Hma.out]
          go_roundg (l.length - (k + 1))
          case measure => have := hgk.out; omega
          case rel => exact ⟨k + 1, by go_num, by omega, by omega, rfl, Hs2.out, rfl⟩
        · have hq : (ci != 0) = true := by simpa using h0
          have He : Hid (R = ci) := HR.out.trans (Hhit.out h0)
          clear Hhit Hz
          go_wp2_with fail
          go_ret
          exact ⟨by rw [He.out] <;> rfl, rfl⟩
      · obtain rfl : k = m.length := by omega
        have He : Hid (R = 1) := by
          show _ = _
          rw [HR.out, cmpL_at m.length (by omega) (Nat.le_refl _) hsm.out, List.drop_eq_getElem_cons hlt, List.drop_length]
          rfl
        have Hla := Lib.hid hla
        rw [hla]
        clear hla
        have hc3 : decide ((m.length : Int) ≤ (m.length : Int)) = true := decide_eq_true (Int.le_refl _)
        go_wp2_with fail
        go_ret
        exact ⟨by rw [He.out] <;> rfl, rfl⟩
    · obtain rfl : k = l.length := by omega
      by_cases hmt : l.length < m.length
      · have He : Hid (R = -1) := by
          show _ = _
          rw [HR.out, cmpL_at l.length (Nat.le_refl _) (by omega) hsm.out, List.drop_length, List.drop_eq_getElem_cons hmt]
          rfl
        have hd : decide ((l.length : Int) < (m.length : Int)) = true := decide_eq_true (by omega)
        go_wp2_with fail
        go_ret
        exact ⟨by rw [He.out] <;> rfl, rfl⟩
      · have He : Hid (R = 0) := by
          show _ = _
          rw [HR.out, cmpL_at l.length (Nat.le_refl _) (by omega) hsm.out, List.drop_length, List.drop_eq_nil_of_le (by omega)]
          rfl
        have hd : decide ((l.length : Int) < (m.length : Int)) = false := decide_eq_false (by omega)
        go_wp2_with fail
        go_ret
        exact ⟨by rw [He.out] <;> rfl, rfl⟩
def chcV (x : Chc) (a : Option Addr) (c : Nat) : Value := .agg #[.int .i64 (x.1 : Nat), .slice a x.2.length c]
set_option maxRecDepth 100000 in
set_option maxHeartbeats 4000000 in
theorem better_any (x y : Chc) (a b : Option Addr) (c d : Nat) (w : World) (hx : SA w a x.2) (hy : SA w b y.2) (hxl : x.2.length ≤ 1000000) (hyl : y.2.length ≤ 1000000) :
    Calls Tryz.prog 93 #[chcV x a c, chcV y b d] w (Gives (.bool (btrB x y)) w) := by
  obtain ⟨n, l⟩ := x
  obtain ⟨m, r⟩ := y
  simp only at hx hy hxl hyl
  have HC : Hid (btrB (n, l) (m, r) = decide (firstOf [Lib.compareInt (m : Int) (n : Int), Lib.compareInt (l.length : Int) (r.length : Int), cmpL l r] < 0)) := rfl
  have HI0 := Lib.hid (fun W => Tryz.cmp_Compare_int (m : Int) (n : Int) W)
  have HI1 := Lib.hid (fun W => Tryz.cmp_Compare_int (l.length : Int) (r.length : Int) W)
  have HI2 := Lib.hid (fun W (h : Below w.heap.size w W) => compareL_any l r a b c d W (hx.below h) (hy.below h) hxl hyl)
  unfold chcV
  simp only
  generalize btrB (n, l) (m, r) = R at *
  generalize Lib.compareInt (m : Int) (n : Int) = c1 at *
  generalize Lib.compareInt (l.length : Int) (r.length : Int) = c2 at *
  generalize cmpL l r = c3 at *
  have hX := (Box.new w 149 #[.int .i64 (n : Nat), .slice a l.length c]).alloc (.cells #[.int .i64 (m : Nat), .slice b r.length d] 149)
  have hY := Box.newAt (w.alloc (.cells #[.int .i64 (n : Nat), .slice a l.length c] 149)) (w.heap.size + 1) 149 #[.int .i64 (m : Nat), .slice b r.length d] (by simp)
  have hb0 : Below w.heap.size w ((w.alloc (.cells #[.int .i64 (n : Nat), .slice a l.length c] 149)).alloc (.cells #[.int .i64 (m : Nat), .slice b r.length d] 149)) := by (repeat' (first | exact Below.refl _ _ | assumption | refine Below.setCell ?_ ?_ _ | refine below_drewN ?_ _ | refine Below.drew ?_ | refine Below.alloc ?_ ?_ _ | (with_reducible refine Below.trans ?_ (Below.mono hb ?_)) | (with_reducible refine Below.trans ?_ (Below.mono hb0 ?_)) | (with_reducible refine Below.trans ?_ (Below.mono hb1 ?_)) | (with_reducible refine Below.trans ?_ (Below.mono hb2 ?_)) | (with_reducible refine Below.trans ?_ (Below.mono hb3 ?_)) | (with_reducible refine Below.trans ?_ (Below.mono hb4 ?_)) | (with_reducible refine Below.trans ?_ (Below.mono hb5 ?_)) | (with_reducible refine Below.trans ?_ (Below.mono hb6 ?_)) | (with_reducible refine Below.trans ?_ (Below.mono hb7 ?_)) | (with_reducible refine Below.trans ?_ (Below.mono hb8 ?_)) | (with_reducible refine Below.trans ?_ (Below.mono hb9 ?_)) | (with_reducible refine Below.trans ?_ (Below.mono hb10 ?_)) | (with_reducible refine Below.trans ?_ (Below.mono hb11 ?_)) | (with_reducible refine Below.trans ?_ (Below.mono hb12 ?_)) | (with_reducible refine Below.trans ?_ (Below.mono hb13 ?_)) | (with_reducible refine Below.trans ?_ (Below.mono hb14 ?_)) | (with_reducible refine Below.trans ?_ (Below.mono hb15 ?_)) | omega | (simp; done) | (simp; omega)))
  clear hx hy
  go_enter Tryz.func93, Tryz.ntmps93
  go_upto_region 1 with (fail)
  generalize (w.alloc (.cells #[.int .i64 (n : Nat), .slice a l.length c] 149)).alloc (.cells #[.int .i64 (m : Nat), .slice b r.length d] 149) = W at *
  have hX_l := hX.lt; have hX_0 := hX.cell 0; have hX_1 := hX.cell 1; simp at hX_0 hX_1
  have hY_l := hY.lt; have hY_0 := hY.cell 0; have hY_1 := hY.cell 1; simp at hY_0 hY_1
  refine wp_region_held_drew (S := (fun wx => wx.cell? ⟨w.heap.size, 0, none⟩ = some (.int .i64 (n : Nat)) ∧ wx.cell? ⟨w.heap.size, 1, none⟩ = some (.slice a l.length c) ∧ wx.cell? ⟨w.heap.size + 1, 0, none⟩ = some (.int .i64 (m : Nat)) ∧ wx.cell? ⟨w.heap.size + 1, 1, none⟩ = some (.slice b r.length d) ∧ Below W.heap.size W wx)) (by kernel_rfl) ?hS (fun hHeld => ?_)
  case hS => exact ⟨hX_0, hX_1, hY_0, hY_1, (Below.refl _ _).drew⟩
  refine rt 0 (some 5) ?_
  refine rt 1 (some 6) ?_
  refine rt 2 (some 7) ?_
  refine rt 3 (some 8) ?_
  refine rt 5 (some 10) ?_
  refine rt 6 (some 11) ?_
  refine rt 7 (some 12) ?_
  refine rt 8 (some 13) ?_
  refine rt 9 (some 14) ?_
  refine rt 10 (some 15) ?_
  refine rt 12 (some 17) ?_
  refine rt 13 (some 18) ?_
  refine rt 14 (some 19) ?_
  refine rt 15 (some 20) ?_
  refine rcall (i := 4) (d := (some 9)) (by kernel_rfl) rfl (by kernel_rfl) (fun K hK => ?_)
  go_simp
  go_at_call 102; refine (HI0.out _).mono ?_; rintro e w' ⟨rfl, rfl⟩
  refine hK.out _ _ ?hS (fun hHeld => ?_)
  case hS => exact hHeld
  clear hK K
  simp only [Act.put, lsetA, lsetZ, lsetS]
  refine rcall (i := 11) (d := (some 16)) (by kernel_rfl) rfl (by kernel_rfl) (fun K hK => ?_)
  go_simp
  go_at_call 102; refine (HI1.out _).mono ?_; rintro e w' ⟨rfl, rfl⟩
  refine hK.out _ _ ?hS (fun hHeld => ?_)
  case hS => exact hHeld
  clear hK K
  simp only [Act.put, lsetA, lsetZ, lsetS]
  refine rcall (i := 16) (d := (some 21)) (by kernel_rfl) rfl (by kernel_rfl) (fun K hK => ?_)
  go_simp
  go_at_call 103; refine (HI2.out _ (below_next hb0 hHeld.2.2.2.2)).mono ?_; rintro e w' ⟨rfl, rfl⟩
  refine hK.out _ _ ?hS (fun hHeld => ?_)
  case hS => exact hHeld
  clear hK K
  simp only [Act.put, lsetA, lsetZ, lsetS]
  refine rcall (i := 17) (d := (some 22)) (by kernel_rfl) rfl (by kernel_rfl) (fun K hK => ?_)
  go_simp
  skip
  refine hK.out _ _ ?hS (fun hHeld => ?_)
  case hS => exact (have hA : ∀ (w : World) (o : Obj), Below w.heap.size w (w.alloc o) := fun w o => (Below.refl _ _).alloc (Nat.le_refl _) o; ⟨cell_later (hA _ _) hHeld.1, cell_later (hA _ _) hHeld.2.1, cell_later (hA _ _) hHeld.2.2.1, cell_later (hA _ _) hHeld.2.2.2.1, below_next hHeld.2.2.2.2 (hA _ _)⟩)
  clear hK K
  simp only [Act.put, lsetA, lsetZ, lsetS]
  refine rcall (i := 18) (d := (some 23)) (by kernel_rfl) rfl (by kernel_rfl) (fun K hK => ?_)
  go_simp
  go_at_call 101; refine (orI_any [c1, c2, c3] _ 3 _ (Box.sa (by first | exact Box.new _ _ _ | exact (Box.new _ _ _).drew) [c1, c2, c3] rfl) (by simp)).mono ?_; rintro e w' ⟨rfl, rfl⟩
  refine hK.out _ _ ?hS (fun hHeld => ?_)
  case hS => exact hHeld
  clear hK K
  simp only [Act.put, lsetA, lsetZ, lsetS]
  refine rt 19 (some 24) ?_
  refine rt 20 (some 4) ?_
  refine wpAnyH_done (by kernel_rfl) ?_ _
  have hbF := below_next hb0 hHeld.2.2.2.2
  go_wp2_with fail
  go_ret
  exact ⟨by rw [HC.out] <;> rfl, hbF⟩
end Go.Proofs.YtaecdhdnjmckpaaGreatDoor
namespace Go.Proofs.YtaecdhdnjmckpaaGreatDoor
open Go.RowKit
set_option linter.unusedVariables false
set_option linter.unusedSimpArgs false
def encW (x : Wsh) : Value := .agg #[.string x.person, .slice x.a1 x.papers.length x.c1]
set_option maxRecDepth 100000 in
set_option maxHeartbeats 4000000 in
theorem indexWsh_any (l : List Wsh) (a : Option Addr) (cap g : Nat) (lb : Array Value) (c : Wsh → Bool) (w : World) (eg : ∀ args w, (callFunc g args).run Tryz.prog w = .ok (.enter g args) w) (h : SA w a l) (hlen : l.length ≤ 1000000000) (hc : TestAt encW g lb c l w) :
    Calls Tryz.prog 87 #[.slice a l.length cap, .func (.func g) #[] lb] w (fun e w' => ∃ r : Int, e = .returned (.int .i64 r) ∧ decide (0 ≤ r) = l.any c ∧ Below w.heap.size w w' ∧ r = idxI c l) := by
  have HC := Lib.hid hc
  clear hc
  go_enter Tryz.func87, Tryz.ntmps87
  go_wp2_with fail
  go_loopg [8] l.length (fun gk i wr => ∃ k : Nat, i = .int .i64 k ∧ k ≤ l.length ∧ Hid (gk = l.length - k) ∧ Hid (∀ x ∈ l.take k, c x = false) ∧ Below w.heap.size w wr)
  case atStart => exact ⟨0, rfl, by omega, rfl, fun x hx => (by cases hx), Below.refl _ _⟩
  case round =>
    obtain ⟨k, rfl, hk, hgk, hf, hb⟩ := hrel
    by_cases hlt : k < l.length
    · obtain ⟨b, off, ha, c0, c1⟩ := (h.below hb).wshC hlt
      have HCx := Lib.hid (HC.out l[k] (List.getElem_mem hlt) wr hb)
      have Hat := Lib.hid (any_at (c := c) hlt)
      have Htk := Lib.hid (List.take_succ_eq_append_getElem hlt)
      have Hix := Lib.hid (fun h => idxI_at (c := c) hlt h hf.out)
      have Ha := Lib.hid ha
      rw [ha]
      clear ha
      generalize l[k] = x at *
      obtain ⟨x1, x2, x3, x4⟩ := x
      (try simp only at *)
      have hk1 : (0 : Int) ≤ (k : Int) := by omega
      have hk2 : (k : Int) < (l.length : Int) := by omega
      obtain ⟨cx, hcx⟩ : ∃ cx, c ⟨x1, x2, x3, x4⟩ = cx := ⟨_, rfl⟩
      rw [hcx] at HCx Hat Hix
      have Hcx := Lib.hid hcx
      clear hcx
      go_wp2_with fail
      refine HCx.out.mono ?_
      rintro e w1 ⟨rfl, hb1⟩
      have hb1' := below_next hb hb1
      cases cx
      · go_wp2_with fail
        rw [← Ha.out]
        go_roundg (l.length - (k + 1))
        case measure => have := hgk.out; omega
        case rel => exact ⟨k + 1, by go_num, by omega, rfl, by rw [Htk.out]; exact fun x hx => (List.mem_append.1 hx).elim (hf.out x) (fun h => by rw [List.mem_singleton.1 h]; exact Hcx.out), hb1'⟩
      · have Hany := Lib.hid (Hat.out rfl)
        have Hr := Lib.hid (Hix.out rfl)
        go_wp2_with fail
        go_ret
        exact ⟨_, rfl, by rw [Hany.out]; exact decide_eq_true hk1, hb1', Hr.out.symm⟩
    · obtain rfl : k = l.length := by omega
      have Hany := Lib.hid (any_none hf.out)
      have Hr := Lib.hid (idxI_none hf.out)
      go_wp2_with fail
      go_ret
      exact ⟨_, rfl, by rw [Hany.out]; rfl, hb, Hr.out.symm⟩
set_option maxRecDepth 100000 in
theorem whoP_any (x : Wsh) (bq : Nat) (who : ByteArray) (w : World) (hc : w.cell? ⟨bq, 0, none⟩ = some (.string who)) :
    Calls Tryz.prog 88 #[encW x, .pointer (some ⟨bq, 0, none⟩)] w (Gives (.bool (decide (x.person = who))) w) := by
  obtain ⟨x1, x2, x3, x4⟩ := x
  have Hb := Lib.hid (toList_beq x1 who)
  unfold encW
  simp only
  generalize decide (x1 = who) = d at *
  have hB := Box.new w 71 #[.string x1, .slice x3 x2.length x4]
  have hb0 : Below w.heap.size w (w.alloc (.cells #[.string x1, .slice x3 x2.length x4] 71)) := by (repeat' (first | exact Below.refl _ _ | assumption | refine Below.setCell ?_ ?_ _ | refine below_drewN ?_ _ | refine Below.drew ?_ | refine Below.alloc ?_ ?_ _ | (with_reducible refine Below.trans ?_ (Below.mono hb ?_)) | (with_reducible refine Below.trans ?_ (Below.mono hb0 ?_)) | (with_reducible refine Below.trans ?_ (Below.mono hb1 ?_)) | (with_reducible refine Below.trans ?_ (Below.mono hb2 ?_)) | (with_reducible refine Below.trans ?_ (Below.mono hb3 ?_)) | (with_reducible refine Below.trans ?_ (Below.mono hb4 ?_)) | (with_reducible refine Below.trans ?_ (Below.mono hb5 ?_)) | (with_reducible refine Below.trans ?_ (Below.mono hb6 ?_)) | (with_reducible refine Below.trans ?_ (Below.mono hb7 ?_)) | (with_reducible refine Below.trans ?_ (Below.mono hb8 ?_)) | (with_reducible refine Below.trans ?_ (Below.mono hb9 ?_)) | (with_reducible refine Below.trans ?_ (Below.mono hb10 ?_)) | (with_reducible refine Below.trans ?_ (Below.mono hb11 ?_)) | (with_reducible refine Below.trans ?_ (Below.mono hb12 ?_)) | (with_reducible refine Below.trans ?_ (Below.mono hb13 ?_)) | (with_reducible refine Below.trans ?_ (Below.mono hb14 ?_)) | (with_reducible refine Below.trans ?_ (Below.mono hb15 ?_)) | omega | (simp; done) | (simp; omega)))
  have hc0 := cell_later hb0 hc
  have hc1 := hB.cell 0
  simp at hc1
  have hb := Hb.out
  clear hc hB
  go_enter Tryz.func88, Tryz.ntmps88
  go_wp2_with fail
  go_ret
  exact ⟨by rw [← Hb.out] <;> rfl, hb0⟩
set_option maxRecDepth 100000 in
theorem whoR_any (x : Wsh) (bq : Nat) (who : ByteArray) (w : World) (hc : w.cell? ⟨bq, 0, none⟩ = some (.string who)) :
    Calls Tryz.prog 96 #[encW x, .pointer (some ⟨bq, 0, none⟩)] w (Gives (.bool (decide (x.person = who))) w) := by
  obtain ⟨x1, x2, x3, x4⟩ := x
  have Hb := Lib.hid (toList_beq x1 who)
  unfold encW
  simp only
  generalize decide (x1 = who) = d at *
  have hB := Box.new w 71 #[.string x1, .slice x3 x2.length x4]
  have hb0 : Below w.heap.size w (w.alloc (.cells #[.string x1, .slice x3 x2.length x4] 71)) := by (repeat' (first | exact Below.refl _ _ | assumption | refine Below.setCell ?_ ?_ _ | refine below_drewN ?_ _ | refine Below.drew ?_ | refine Below.alloc ?_ ?_ _ | (with_reducible refine Below.trans ?_ (Below.mono hb ?_)) | (with_reducible refine Below.trans ?_ (Below.mono hb0 ?_)) | (with_reducible refine Below.trans ?_ (Below.mono hb1 ?_)) | (with_reducible refine Below.trans ?_ (Below.mono hb2 ?_)) | (with_reducible refine Below.trans ?_ (Below.mono hb3 ?_)) | (with_reducible refine Below.trans ?_ (Below.mono hb4 ?_)) | (with_reducible refine Below.trans ?_ (Below.mono hb5 ?_)) | (with_reducible refine Below.trans ?_ (Below.mono hb6 ?_)) | (with_reducible refine Below.trans ?_ (Below.mono hb7 ?_)) | (with_reducible refine Below.trans ?_ (Below.mono hb8 ?_)) | (with_reducible refine Below.trans ?_ (Below.mono hb9 ?_)) | (with_reducible refine Below.trans ?_ (Below.mono hb10 ?_)) | (with_reducible refine Below.trans ?_ (Below.mono hb11 ?_)) | (with_reducible refine Below.trans ?_ (Below.mono hb12 ?_)) | (with_reducible refine Below.trans ?_ (Below.mono hb13 ?_)) | (with_reducible refine Below.trans ?_ (Below.mono hb14 ?_)) | (with_reducible refine Below.trans ?_ (Below.mono hb15 ?_)) | omega | (simp; done) | (simp; omega)))
  have hc0 := cell_later hb0 hc
  have hc1 := hB.cell 0
  simp at hc1
  have hb := Hb.out
  clear hc hB
  go_enter Tryz.func96, Tryz.ntmps96
  go_wp2_with fail
  go_ret
  exact ⟨by rw [← Hb.out] <;> rfl, hb0⟩
/-- Papers of a session that are wished; two sessions at one time. -/
def cnN (wish : List ByteArray) (p : List Ses) (i : Nat) : Nat := match p[i]? with | some s => (heardIn wish s).length | none => 0
def mtN (g : Grd) (p : List Ses) (i k : Nat) : Bool := match p[i]?, p[k]? with | some a, some b => meetsB g a b | _, _ => false
def hrdAt (wish : List ByteArray) (p : List Ses) (i : Nat) : List ByteArray := match p[i]? with | some s => heardIn wish s | none => []
theorem hrdAt_at (wish : List ByteArray) {p : List Ses} {i : Nat} (h : i < p.length) : hrdAt wish p i = heardIn wish p[i] := by
  unfold hrdAt
  rw [List.getElem?_eq_getElem h]
theorem hrd_len {wish : List ByteArray} {p : List Ses} (h : ∀ s ∈ p, s.papers.length ≤ 1000) : ∀ l : List Nat, (l.flatMap (hrdAt wish p)).length ≤ 1000 * l.length
  | [] => Nat.le_refl _
  | i :: r => by
    have ih := hrd_len (wish := wish) h r
    rw [List.flatMap_cons, List.length_append, List.length_cons]
    have h1 : (hrdAt wish p i).length ≤ 1000 := by
      unfold hrdAt
      cases e : p[i]? with
      | none => exact Nat.zero_le _
      | some s => exact Nat.le_trans (List.length_filter_le _ _) (h s (List.mem_of_getElem? e))
    omega
theorem hrd_take {wish : List ByteArray} {p : List Ses} {l : List Nat} {j : Nat} (hj : j < l.length) (hi : l[j] < p.length) : (l.take (j + 1)).flatMap (hrdAt wish p) = (l.take j).flatMap (hrdAt wish p) ++ p[l[j]].papers.filter (inB wish) := by
  rw [List.take_succ_eq_append_getElem hj, List.flatMap_append]
  congr 1
  rw [List.flatMap_cons, List.flatMap_nil, List.append_nil, hrdAt_at wish hi]
  rfl
theorem fil_take {α : Type} (q : α → Bool) {l : List α} {k : Nat} (h : k < l.length) : (l.take (k + 1)).filter q = (l.take k).filter q ++ if q l[k] = true then [l[k]] else [] := by
  rw [List.take_succ_eq_append_getElem h, List.filter_append, List.filter_cons, List.filter_nil]
theorem cnN_at (wish : List ByteArray) {p : List Ses} {i : Nat} (h : i < p.length) : cnN wish p i = (heardIn wish p[i]).length := by
  unfold cnN
  rw [List.getElem?_eq_getElem h]
theorem mtN_at (g : Grd) {p : List Ses} {i k : Nat} (hi : i < p.length) (hk : k < p.length) : mtN g p i k = meetsB g p[i] p[k] := by
  unfold mtN
  rw [List.getElem?_eq_getElem hi, List.getElem?_eq_getElem hk]
theorem filt_take {α : Type} (q : α → Bool) {l : List α} {k : Nat} (h : k < l.length) : ((l.take (k + 1)).filter q).length = ((l.take k).filter q).length + if q l[k] = true then 1 else 0 := by
  rw [List.take_succ_eq_append_getElem h, List.filter_append, List.length_append, List.filter_cons, List.filter_nil]
  split <;> rfl
theorem sumN_take (cn : Nat → Nat) {l : List Nat} {k : Nat} (h : k < l.length) : sumN cn (l.take (k + 1)) = sumN cn (l.take k) + cn l[k] := by
  rw [List.take_succ_eq_append_getElem h, sumN_snoc]
theorem sumN_bd {cn : Nat → Nat} {B : Nat} (h : ∀ i, cn i ≤ B) : ∀ l : List Nat, sumN cn l ≤ B * l.length := by
  intro l
  have key : ∀ (l : List Nat) (z : Nat), (l.map cn).foldl (· + ·) z ≤ z + B * l.length := by
    intro l
    induction l with
    | nil => intro z; simp
    | cons x r ih =>
      intro z
      rw [List.map_cons, List.foldl_cons, List.length_cons]
      have h1 := ih (z + cn x)
      have h2 := h x
      rw [Nat.mul_succ]
      omega
  have := key l 0
  unfold sumN
  omega
set_option maxRecDepth 100000 in
set_option maxHeartbeats 4000000 in
theorem heard_any (p : List Ses) (pa : Option Addr) (pc : Nat) (wish : List ByteArray) (wa : Option Addr) (wc : Nat) (l : List Nat) (la : Option Addr) (lc bP bW : Nat) (w : World) (hp : PRg w pa p) (hpo : ∀ s ∈ p, s.papers.length ≤ 1000) (hw : SA w wa wish) (hwl : wish.length ≤ 1000000) (hl : SA w la l) (hll : l.length ≤ 1000) (hlp : ∀ i ∈ l, i < p.length) (hpl : p.length ≤ 1000) (hcP : w.cell? ⟨bP, 0, none⟩ = some (.slice pa p.length pc)) (hcW : w.cell? ⟨bW, 0, none⟩ = some (.slice wa wish.length wc)) :
    Calls Tryz.prog 98 #[.slice la l.length lc, .pointer (some ⟨bP, 0, none⟩), .pointer (some ⟨bW, 0, none⟩)] w (fun e w' => e = .returned (.int .i64 (sumN (cnN wish p) l : Nat)) ∧ w' = w) := by
  have HC := Lib.hid (fun x => contains_any wish wa wc x w hw (by omega))
  have HPL := Lib.hid hlp
  have hcb : ∀ i, cnN wish p i ≤ 1000 := fun i => by
    unfold cnN
    cases h : p[i]? with
    | none => simp
    | some s =>
      have h1 := hpo s (List.mem_of_getElem? h)
      have h2 := List.length_filter_le (inB wish) s.papers
      show (s.papers.filter (inB wish)).length ≤ _
      omega
  have HBD := Lib.hid (fun l => sumN_bd hcb l)
  have HST := Lib.hid (fun k h => sumN_take (cnN wish p) (l := l) (k := k) h)
  have HCN := Lib.hid (fun i h => cnN_at wish (p := p) (i := i) h)
  have HT : Hid (sumN (cnN wish p) l = sumN (cnN wish p) (l.take l.length)) := by show _ = _; rw [List.take_length]
  have HZ : Hid (sumN (cnN wish p) (l.take 0) = 0) := rfl
  generalize hcn : cnN wish p = cn at *
  clear hcb hlp hcn
  go_enter Tryz.func98, Tryz.ntmps98
  go_wp2_with fail
  go_loopg [12, 5] l.length (fun gk iv nv wr => ∃ k : Nat, iv = .int .i64 k ∧ nv = .int .i64 (sumN cn (l.take k) : Nat) ∧ k ≤ l.length ∧ Hid (gk = l.length - k) ∧ wr = w)
  case atStart => exact ⟨0, rfl, by rw [HZ.out]; rfl, by omega, rfl, rfl⟩
  case round =>
    obtain ⟨k, rfl, rfl, hk, hgk, rfl⟩ := hrel
    by_cases hlt : k < l.length
    · obtain ⟨lb, lo, hla, c0⟩ := hl.natC hlt
      have hi := HPL.out l[k] (List.getElem_mem hlt)
      have Hst := Lib.hid (HST.out k hlt)
      have hbd := HBD.out (l.take k)
      rw [List.length_take, Nat.min_eq_left (by omega)] at hbd
      have Hla := Lib.hid hla
      rw [hla]
      clear hla
      generalize l[k] = i at *
      have Hcn := Lib.hid (HCN.out i hi)
      obtain ⟨pb, po, hpa, d0, d1, d2⟩ := hp.list.sesC hi
      have hsm : p[i] ∈ p := List.getElem_mem hi
      have hsp := hp.papers _ hsm
      have hsl := hpo _ hsm
      have Hpa := Lib.hid hpa
      rw [hpa] at hcP
      generalize p[i] = s at *
      obtain ⟨s1, s2, s3, s4, s5⟩ := s
      simp only at d0 d1 d2 hsp hsl
      unfold heardIn at Hcn
      simp only at Hcn
      generalize sumN cn (l.take k) = N at *
      have hi0 : (0 : Int) ≤ (i : Int) := by omega
      have hi2 : (i : Int) < (p.length : Int) := by omega
      go_wp2_with fail
      go_loopg [22, 5] s3.length (fun gj jv nv wr' => ∃ j : Nat, jv = .int .i64 j ∧ nv = .int .i64 ((N + ((s3.take j).filter (inB wish)).length : Nat)) ∧ j ≤ s3.length ∧ Hid (gj = s3.length - j) ∧ wr' = wr)
      case atStart => exact ⟨0, rfl, rfl, by omega, rfl, rfl⟩
      case round =>
        obtain ⟨j, rfl, rfl, hj, hgj, rfl⟩ := hrel
        by_cases hjl : j < s3.length
        · obtain ⟨tb, to_, hta, e0⟩ := hsp.str hjl
          have Hft := Lib.hid (filt_take (inB wish) hjl)
          have hfl := List.length_filter_le (inB wish) (s3.take j)
          rw [List.length_take, Nat.min_eq_left (by omega)] at hfl
          have Hta := Lib.hid hta
          rw [hta]
          clear hta
          generalize s3[j] = x at *
          have HCx := Lib.hid (HC.out x)
          have Hx : Hid (wish.any (fun y => decide (y = x)) = inB wish x) := rfl
          rw [Hx.out] at HCx
          generalize ((s3.take j).filter (inB wish)).length = M at *
          go_wp2_with fail
          refine HCx.out.mono ?_
          rintro e w1 ⟨rfl, rfl⟩
          cases hin : inB wish x
          · rw [hin] at Hft
            go_wp2_with fail
            rw [← Hta.out]
            go_roundg (s3.length - (j + 1))
            case measure => have := hgj.out; omega
            case rel => exact ⟨j + 1, by go_num, by rw [Hft.out, if_neg (by decide), Nat.add_zero]; (congr 1 <;> omega), by omega, rfl, rfl⟩
          · rw [hin, if_pos rfl] at Hft
            have hw1 : IntKind.i64.wrap (((N + M : Nat) : Int) + 1) = ((N + (M + 1) : Nat) : Int) := by rw [IntWalk.i64_in _ (by omega)]; omega
            go_wp2_with fail
            rw [← Hta.out]
            go_roundg (s3.length - (j + 1))
            case measure => have := hgj.out; omega
            case rel => exact ⟨j + 1, by go_num, by rw [Hft.out]; (congr 1 <;> omega), by omega, rfl, rfl⟩
        · obtain rfl : j = s3.length := by omega
          rw [List.take_length, ← Hcn.out, ← Hst.out]
          go_wp2_with fail
          rw [← Hla.out]
          go_roundg (l.length - (k + 1))
          case measure => have := hgk.out; omega
          case rel => exact ⟨k + 1, by go_num, rfl, by omega, rfl, rfl⟩
    · obtain rfl : k = l.length := by omega
      rw [← HT.out]
      go_wp2_with fail
      go_ret
      exact ⟨rfl, rfl⟩
def GBoxA (w : World) (b : Nat) (g : Grd) : Prop := Box w b 32 #[.slice g.ra g.rooms.length g.rc, .slice g.sa g.slots.length g.sc, .slice g.ta g.talks.length g.tc, .slice g.wa g.wishes.length g.wc, .slice g.ba g.bans.length g.bc]
/-- Whoever has such a name: a wish, or nobody. -/
def wishOf (g : Grd) (who : ByteArray) : Int := idxI (fun x : Wsh => decide (x.person = who)) g.wishes
theorem someL_lt {wish : List ByteArray} {p : List Ses} {i : Nat} (h : i ∈ someL wish p) : i < p.length := by
  unfold someL at h
  exact List.mem_range.1 (List.mem_filter.1 h).1
def someTo (wish : List ByteArray) (p : List Ses) (k : Nat) : List Nat := (List.range k).filter (fun i => match p[i]? with | some s => sharesB wish s.papers | none => false)
theorem someTo_succ (wish : List ByteArray) {p : List Ses} {k : Nat} (h : k < p.length) : someTo wish p (k + 1) = someTo wish p k ++ if sharesB wish p[k].papers = true then [k] else [] := by
  unfold someTo
  rw [List.range_succ, List.filter_append, List.filter_cons, List.filter_nil, List.getElem?_eq_getElem h]
theorem someTo_len (wish : List ByteArray) (p : List Ses) (k : Nat) : (someTo wish p k).length ≤ k := by
  unfold someTo
  have := List.length_filter_le (fun i => match p[i]? with | some s => sharesB wish s.papers | none => false) (List.range k)
  rwa [List.length_range] at this
theorem pow_wrap {n : Nat} (h : n ≤ 14) : ∃ N : Nat, N = 2 ^ n ∧ N ≤ 16384 ∧ wrap64 ((2 : Int) ^ n) = (N : Int) := by
  have h1 : 2 ^ n ≤ 2 ^ 14 := Nat.pow_le_pow_right (by omega) h
  have e : ((2 : Int) ^ n) = ((2 ^ n : Nat) : Int) := (Int.natCast_pow 2 n).symm
  refine ⟨2 ^ n, rfl, h1, ?_⟩
  rw [e]
  generalize 2 ^ n = N at *
  exact IntWalk.wrap64_in _ (by omega)
theorem i64_and1 (n : Int) : bits .and .i64 n 1 = n % 2 := by
  have h1 : (BitVec.ofInt 64 1).toNat = 2 ^ 1 - 1 := by decide
  have key : (BitVec.ofInt 64 n &&& BitVec.ofInt 64 1).toNat = (n % ((2 ^ 64 : Nat) : Int)).toNat % 2 ^ 1 := by
    rw [BitVec.toNat_and, BitVec.toNat_ofInt, h1, Nat.and_two_pow_sub_one_eq_mod]
  show IntKind.i64.wrap ((BitVec.ofInt 64 n &&& BitVec.ofInt 64 1).toNat : Nat) = n % 2
  rw [key, IntKind.wrap_i64]
  omega
theorem bit_at (s j : Nat) : bits .and .i64 ((s : Int) / (2 : Int) ^ j) 1 = if bitB s j = true then 1 else 0 := by
  rw [i64_and1]
  unfold bitB
  rw [Nat.testBit_eq_decide_div_mod_eq]
  have e : ((2 : Int) ^ j) = ((2 ^ j : Nat) : Int) := (Int.natCast_pow 2 j).symm
  rw [e]
  have e2 : ((s : Int) / ((2 ^ j : Nat) : Int)) = ((s / 2 ^ j : Nat) : Int) := rfl
  rw [e2]
  generalize s / 2 ^ j = q
  by_cases h : q % 2 = 1
  · rw [if_pos (decide_eq_true h)]; omega
  · rw [if_neg (by simpa using h)]; omega
theorem overlapsB_symm (a b : Slt) : overlapsB a b = overlapsB b a := by
  unfold overlapsB
  cases slotOut a <;> cases slotOut b <;> simp [Bool.and_comm]
theorem mtN_symm (g : Grd) (p : List Ses) (a b : Nat) : mtN g p a b = mtN g p b a := by
  unfold mtN
  cases p[a]? <;> cases p[b]? <;> first | rfl | exact overlapsB_symm _ _
theorem bestSet_succR {mt : Nat → Nat → Bool} (hs : ∀ a b, mt a b = mt b a) (cn : Nat → Nat) (all : List Nat) (s : Nat) : bestSet mt cn all (s + 1) = if (frTo mt (subTo all s all.length) (subTo all s all.length).length && decide (firstOf [Lib.compareInt (sumN cn (bestSet mt cn all s).2 : Nat) (sumN cn (subTo all s all.length) : Nat), Lib.compareInt ((subTo all s all.length).length : Int) ((bestSet mt cn all s).2.length : Int), cmpL (subTo all s all.length) (bestSet mt cn all s).2] < 0)) = true then (sumN cn (subTo all s all.length), subTo all s all.length) else bestSet mt cn all s := by
  rw [← ok_fr hs all s all.length, ← bestSet_sum]
  rfl
theorem bestSet_mem {mt : Nat → Nat → Bool} {cn : Nat → Nat} {all : List Nat} : ∀ s, ∀ x ∈ (bestSet mt cn all s).2, x ∈ all
  | 0, x, h => by cases h
  | s + 1, x, h => by
    unfold bestSet at h
    split at h
    · exact List.mem_of_mem_take (subTo_mem all.length (Nat.le_refl _) x h)
    · exact bestSet_mem s x h
theorem bestSet_len {mt : Nat → Nat → Bool} {cn : Nat → Nat} {all : List Nat} : ∀ s, (bestSet mt cn all s).2.length ≤ all.length
  | 0 => Nat.zero_le _
  | s + 1 => by
    unfold bestSet
    split
    · exact subTo_len all s all.length
    · exact bestSet_len s
theorem subTo_succ (all : List Nat) (s : Nat) {k : Nat} (h : k < all.length) : subTo all s (k + 1) = subTo all s k ++ if bitB s k = true then [all[k]] else [] := by
  show subTo all s k ++ (if bitB s k = true then [all.getD k 0] else []) = _
  rw [List.getD_eq_getElem?_getD, List.getElem?_eq_getElem h]
  rfl
theorem frTo_succ (mt : Nat → Nat → Bool) {l : List Nat} {a : Nat} (h : a < l.length) : frTo mt l (a + 1) = (frTo mt l a && (l.take a).all (fun k => !mt l[a] k)) := by
  show (frTo mt l a && (l.take a).all (fun k => !mt (l.getD a 0) k)) = _
  rw [List.getD_eq_getElem?_getD, List.getElem?_eq_getElem h]
  rfl
theorem all_take {α : Type} (q : α → Bool) {l : List α} {k : Nat} (h : k < l.length) : (l.take (k + 1)).all q = ((l.take k).all q && q l[k]) := by
  rw [List.take_succ_eq_append_getElem h, List.all_append]
  simp
theorem idxI_nat {α : Type} {c : α → Bool} {l : List α} (h : 0 ≤ idxI c l) : ∃ k, k < l.length ∧ idxI c l = (k : Nat) := by
  unfold idxI at h ⊢
  cases e : l.findIdx? c with
  | none => rw [e] at h; exact absurd h (by decide)
  | some k =>
    refine ⟨k, ?_, rfl⟩
    rw [List.findIdx?_eq_some_iff_findIdx_eq] at e
    exact e.1
theorem infoIntA : (Tryz.prog.info? 3).map (fun i => (i.zero, i.size, i.bytes)) = some (some (.int .i64 0), 1, 8) := by kernel_rfl
/-- The sessions that a person hears at best. -/
def agdBest (g : Grd) (p : List Ses) (wish : List ByteArray) : List Nat := (bestSet (mtN g p) (cnN wish p) (someL wish p) (2 ^ (someL wish p).length)).2
/-- What Agenda returns: errors, or papers and sessions. -/
def AgdRes (g : Grd) (p : List Ses) (who : ByteArray) (pap : List ByteArray → List ByteArray) (w : World) (e : Ending) (w' : World) : Prop :=
  Below w.heap.size w w' ∧ ((wishOf g who < 0 ∧ e = .returned (.tuple #[.slice none 0 0, .slice none 0 0, .int .i64 8])) ∨
    ∃ (k : Nat) (hk : k < g.wishes.length), wishOf g who = (k : Nat) ∧
      ((14 < (someL g.wishes[k].papers p).length ∧ e = .returned (.tuple #[.slice none 0 0, .slice none 0 0, .int .i64 2])) ∨
       ((someL g.wishes[k].papers p).length ≤ 14 ∧ ∃ (vA vB : Value) (ls : List Ses), e = .returned (.tuple #[vA, vB, .int .i64 0]) ∧ Own w.heap.size 9 w' vA (pap g.wishes[k].papers) ∧ NL w.heap.size 114 w' vB ls ∧ ls.map (fun s => some (keyOf3 s)) = (agdBest g p g.wishes[k].papers).map (fun i => p[i]?.map keyOf3))))
/-- The papers, in the reference's way. -/
def papR (g : Grd) (p : List Ses) (wish : List ByteArray) : List ByteArray := keysS ((agdBest g p wish).flatMap (hrdAt wish p))
end Go.Proofs.YtaecdhdnjmckpaaGreatDoor
