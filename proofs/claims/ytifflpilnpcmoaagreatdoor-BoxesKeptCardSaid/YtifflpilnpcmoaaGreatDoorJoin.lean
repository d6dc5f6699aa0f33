/- The reference's Box: Join. -/
import Derived.Test.YtifflpilnpcmoaaGreatDoorBoxS
import Derived.Test.YtifflpilnpcmoaaGreatDoorPut
import Derived.Test.YtifflpilnpcmoaaGreatDoorAppAll
import Derived.Test.YtifflpilnpcmoaaGreatDoorStream
/-! The reference's Box: Join. -/
namespace Go.Proofs.YtifflpilnpcmoaaGreatDoor
open Go.RowKit
set_option linter.unusedVariables false
set_option linter.unusedSimpArgs false

/-- append(s, ys...): the slice lies where it lay, or in a new block. -/
theorem wpList_append_lieAll {α : Type} [Cel α] {w : World} {base : Nat} {P : Program} {ops : Array Oper} {rest : List Oper} {o : Oper} {a : Act} {Q : Exit → Act → World → Prop} (hgd : o.guard = none) (s x : Operand) (t : TypeId)
    (ho : o.op = .call { callee := .builtin .append, args := #[s, x], argTypes := #[t, t] }) (E bytes : Nat) (z : Value) (ht : P.underlying t = some (.slice E))
    (hE : (P.info? E).map (fun i => (i.zero, i.size, i.bytes)) = some (some z, Cel.k α, bytes)) (hzs : z.cells.size = Cel.k α)
    (v : Value) (l : List α) (hs : a.eval s = v) (hown : Own base E w v l) (ys : List α) (ad : Option Addr) (c : Nat) (hx : a.eval x = .slice ad ys.length c)
    (hsa : SA w ad ys) (hlen : (l.length + ys.length) * bytes ≤ 140737488355328) (hmax : l.length + ys.length ≤ 1000000000000) (hbase : base ≤ w.heap.size)
    (h : ∀ a' cap w', Own base E w' (.slice a' (l.length + ys.length) cap) (l ++ ys) → w.grownBy w' v.ownBlock → (∀ j, (Value.slice a' (l.length + ys.length) cap).ownBlock = some j → v.ownBlock = some j ∨ w.heap.size ≤ j) → wpList P ops Q rest (a.put o.dst (.slice a' (l.length + ys.length) cap)) w') : wpList P ops Q (o :: rest) a w := by
  by_cases hne : ys = []
  · subst hne
    obtain ⟨i0, hi, _, _, _⟩ := info_parts hE
    obtain ⟨a', cap, rfl, -⟩ := hown.form
    refine wpList_append_zero hgd s x t ho base E i0 (Cel.k α) ht hi _ _ _ hs hown ad c hx ?_
    exact h a' cap w (by rw [List.append_nil]; exact hown) ⟨rfl, rfl, rfl, Nat.le_refl _, fun _ _ _ => rfl⟩ (fun j hj => .inl hj)
  · refine wpList_append_more hgd s x t ho E bytes z ht hE hzs v l hs hown ys ad c hx hsa hne hlen hmax hbase fun g cap w' h1 h2 h3 => h _ cap w' h1 h2 (fun j hj => ?_)
    obtain rfl : g = j := Option.some.inj hj
    exact h3.imp id (fun e => Nat.le_of_eq e.symm)
/-- What joining says, and leaves. -/
def joinE (f f1 : Int) : Int := if f = f1 then 0 else 13
noncomputable def joinN (f f1 : Int) (l m : List Arv) : Int := if f = f1 then ((freshA l m).length : Nat) else 0
noncomputable def joinL (f f1 : Int) (l m : List Arv) : List Arv := if f = f1 then joinA l m else l
theorem freshA_step {l m : List Arv} {k : Nat} (hk : k < m.length) : freshA l (m.take (k + 1)) = if decide (m[k] ∈ l) = true then freshA l (m.take k) else freshA l (m.take k) ++ [m[k]] := by
  unfold freshA
  rw [List.take_succ_eq_append_getElem hk, List.filter_append]
  by_cases h : m[k] ∈ l
  · rw [if_pos (decide_eq_true h)]
    simp [h]
  · rw [if_neg (by simpa using h)]
    simp [h]
set_option maxRecDepth 100000 in
set_option maxHeartbeats 16000000 in
theorem joinR_any {base b b2 : Nat} {o a f f1 : Int} {s : List Skill} {a3 a4 : Option Addr} {c3 c4 : Nat} {v v2 : Value} {l m : List Arv} (w : World) (h : BoxAt 99 base b o a f a3 s.length c3 v l w) (h2 : BoxAt 99 base b2 o a f1 a4 s.length c4 v2 m w) (hs : SA w a3 s) (hs2 : SA w a4 s) (hsl : s.length ≤ 1000000) (hl : l.length ≤ 1000) (hm : m.length ≤ 500) (hbb : b ≠ b2) (hap : ∀ j, v.ownBlock = some j → v2.ownBlock ≠ some j) (hbase : base ≤ w.heap.size) :
    Calls Tryz.prog 29 #[.pointer (some ⟨b, 0, none⟩), .pointer (some ⟨b2, 0, none⟩)] w (fun e w' => ∃ v', e = .returned (.tuple #[.int .i64 (joinN f f1 l m), .int .i64 (joinE f f1)]) ∧ BoxAt 99 base b o a f a3 s.length c3 v' (joinL f f1 l m) w' ∧ Moves b v v' w w') := by
  obtain ⟨hB, hO, hbs⟩ := h
  obtain ⟨hD, hP, hds⟩ := h2
  have Hol := Lib.hid hO.lt
  obtain ⟨la, cap, rfl, hsa, -, hcap⟩ := hO.form
  obtain ⟨lb, cap2, rfl, hsb, -, -⟩ := hP.form
  have HEq := Lib.hid (fun W (h : SA W a3 s) (h2 : SA W a4 s) => equalRea_any s a3 a4 c3 c4 W h h2 (by omega))
  have HCt := Lib.hid (fun W (x : Arv) (h : SA W la l) => containsArr_any l la cap x W h (by omega))
  have HFl := Lib.hid (freshA_len l m)
  have HFs := Lib.hid (fun k (hk : k < m.length) => freshA_step (l := l) hk)
  have HSo := Lib.hid (fun W v (h : Own base 63 W v (l ++ freshA l m)) => sortArr_any base (l ++ freshA l m) v W 62 (enters_of Tryz.func62 (by kernel_rfl) rfl) (fun x y W => boxOrder_any x y W) h (by have := freshA_len l m; rw [List.length_append]; omega))
  have HFlk := Lib.hid (fun k => Nat.le_trans (freshA_len l (m.take k)) (List.length_take_le k m))
  have hb0 := Below.refl w.heap.size w
  by_cases hf : f = f1
  · subst hf
    have HJE : Hid (joinE f f = 0) := if_pos rfl
    have HJN : Hid (joinN f f l m = ((freshA l m).length : Nat)) := if_pos rfl
    have HJL : Hid (joinL f f l m = sortC cmpA (l ++ freshA l m)) := if_pos rfl
    rw [HJE.out, HJN.out, HJL.out]
    clear HJE HJN HJL
    generalize sortC cmpA (l ++ freshA l m) = jl at *
    have Hfin : Hid (freshA l (m.take m.length) = freshA l m) := by show _ = _; rw [List.take_length]
    generalize freshA l m = fr at *
    go_enter Tryz.func29, Tryz.ntmps29
    go_upto_region 1 with (fail)
    have hB_l := hB.lt; have hB_0 := hB.cell 0; have hB_1 := hB.cell 1; have hB_2 := hB.cell 2; have hB_3 := hB.cell 3; have hB_4 := hB.cell 4; simp at hB_0 hB_1 hB_2 hB_3 hB_4
    have hD_l := hD.lt; have hD_0 := hD.cell 0; have hD_1 := hD.cell 1; have hD_2 := hD.cell 2; have hD_3 := hD.cell 3; have hD_4 := hD.cell 4; simp at hD_0 hD_1 hD_2 hD_3 hD_4
    refine wp_region_held_drew (S := (fun wx => (wx.cell? ⟨b, 0, none⟩ = some (.int .i64 o) ∧ wx.cell? ⟨b, 1, none⟩ = some (.int .i64 a) ∧ wx.cell? ⟨b, 2, none⟩ = some (.int .i64 f) ∧ wx.cell? ⟨b, 3, none⟩ = some (.slice a3 s.length c3) ∧ wx.cell? ⟨b2, 0, none⟩ = some (.int .i64 o) ∧ wx.cell? ⟨b2, 1, none⟩ = some (.int .i64 a) ∧ wx.cell? ⟨b2, 2, none⟩ = some (.int .i64 f) ∧ wx.cell? ⟨b2, 3, none⟩ = some (.slice a4 s.length c4)) ∧ Below w.heap.size w wx)) (by kernel_rfl) ?hS (fun hHeld => ?_)
    case hS => exact ⟨⟨hB_0, hB_1, hB_2, hB_3, hD_0, hD_1, hD_2, hD_3⟩, (Below.refl _ _).drew⟩
    refine rtake (i := 0) (d := (some 10)) (v := ?_) rfl (by kernel_rfl) (by kernel_rfl) (by kernel_rfl) (by kernel_rfl) (fun _ _ _ h => h) (by kernel_rfl) (by assumption) ?_ ?_
    rotate_left 1
    · (intro wI hSI; (try dsimp only at hSI); go_simp; (try with_reducible rfl))
    simp only [Act.put, List.setIfInBounds_toArray, List.set_cons_zero, List.set_cons_succ]
    refine rtake (i := 1) (d := (some 11)) (v := ?_) rfl (by kernel_rfl) (by kernel_rfl) (by kernel_rfl) (by kernel_rfl) (fun _ _ _ h => h) (by kernel_rfl) (by assumption) ?_ ?_
    rotate_left 1
    · (intro wI hSI; (try dsimp only at hSI); go_simp; (try with_reducible rfl))
    simp only [Act.put, List.setIfInBounds_toArray, List.set_cons_zero, List.set_cons_succ]
    refine rtake (i := 2) (d := (some 12)) (v := ?_) rfl (by kernel_rfl) (by kernel_rfl) (by kernel_rfl) (by kernel_rfl) (fun _ _ _ h => h) (by kernel_rfl) (by assumption) ?_ ?_
    rotate_left 1
    · (intro wI hSI; (try dsimp only at hSI); go_simp; (try with_reducible rfl))
    simp only [Act.put, List.setIfInBounds_toArray, List.set_cons_zero, List.set_cons_succ]
    refine rtake (i := 3) (d := (some 13)) (v := ?_) rfl (by kernel_rfl) (by kernel_rfl) (by kernel_rfl) (by kernel_rfl) (fun _ _ _ h => h) (by kernel_rfl) (by assumption) ?_ ?_
    rotate_left 1
    · (intro wI hSI; (try dsimp only at hSI); go_simp; (try with_reducible rfl))
    simp only [Act.put, List.setIfInBounds_toArray, List.set_cons_zero, List.set_cons_succ]
    refine rtake (i := 4) (d := (some 14)) (v := ?_) rfl (by kernel_rfl) (by kernel_rfl) (by kernel_rfl) (by kernel_rfl) (fun _ _ _ h => h) (by kernel_rfl) (by assumption) ?_ ?_
    rotate_left 1
    · (intro wI hSI; (try dsimp only at hSI); go_simp; (try with_reducible rfl))
    simp only [Act.put, List.setIfInBounds_toArray, List.set_cons_zero, List.set_cons_succ]
    refine rtake (i := 5) (d := (some 15)) (v := ?_) rfl (by kernel_rfl) (by kernel_rfl) (by kernel_rfl) (by kernel_rfl) (fun _ _ _ h => h) (by kernel_rfl) (by assumption) ?_ ?_
    rotate_left 1
    · (intro wI hSI; (try dsimp only at hSI); go_simp; (try with_reducible rfl))
    simp only [Act.put, List.setIfInBounds_toArray, List.set_cons_zero, List.set_cons_succ]
    refine rtake (i := 6) (d := (some 16)) (v := ?_) rfl (by kernel_rfl) (by kernel_rfl) (by kernel_rfl) (by kernel_rfl) (fun _ _ _ h => h) (by kernel_rfl) (by assumption) ?_ ?_
    rotate_left 1
    · (intro wI hSI; (try dsimp only at hSI); go_simp; (try with_reducible rfl))
    simp only [Act.put, List.setIfInBounds_toArray, List.set_cons_zero, List.set_cons_succ]
    refine rtake (i := 7) (d := (some 17)) (v := ?_) rfl (by kernel_rfl) (by kernel_rfl) (by kernel_rfl) (by kernel_rfl) (fun _ _ _ h => h) (by kernel_rfl) (by assumption) ?_ ?_
    rotate_left 1
    · (intro wI hSI; (try dsimp only at hSI); go_simp; (try with_reducible rfl))
    simp only [Act.put, List.setIfInBounds_toArray, List.set_cons_zero, List.set_cons_succ]
    refine rtake (i := 8) (d := (some 18)) (v := ?_) rfl (by kernel_rfl) (by kernel_rfl) (by kernel_rfl) (by kernel_rfl) (fun _ _ _ h => h) (by kernel_rfl) (by assumption) ?_ ?_
    rotate_left 1
    · (intro wI hSI; (try dsimp only at hSI); go_simp; (try with_reducible rfl))
    simp only [Act.put, List.setIfInBounds_toArray, List.set_cons_zero, List.set_cons_succ]
    refine rtake (i := 9) (d := (some 19)) (v := ?_) rfl (by kernel_rfl) (by kernel_rfl) (by kernel_rfl) (by kernel_rfl) (fun _ _ _ h => h) (by kernel_rfl) (by assumption) ?_ ?_
    rotate_left 1
    · (intro wI hSI; (try dsimp only at hSI); go_simp; (try with_reducible rfl))
    simp only [Act.put, List.setIfInBounds_toArray, List.set_cons_zero, List.set_cons_succ]
    refine rtake (i := 10) (d := (some 20)) (v := ?_) rfl (by kernel_rfl) (by kernel_rfl) (by kernel_rfl) (by kernel_rfl) (fun _ _ _ h => h) (by kernel_rfl) (by assumption) ?_ ?_
    rotate_left 1
    · (intro wI hSI; (try dsimp only at hSI); go_simp; (try with_reducible rfl))
    simp only [Act.put, List.setIfInBounds_toArray, List.set_cons_zero, List.set_cons_succ]
    refine rtake (i := 11) (d := (some 21)) (v := ?_) rfl (by kernel_rfl) (by kernel_rfl) (by kernel_rfl) (by kernel_rfl) (fun _ _ _ h => h) (by kernel_rfl) (by assumption) ?_ ?_
    rotate_left 1
    · (intro wI hSI; (try dsimp only at hSI); go_simp; (try with_reducible rfl))
    simp only [Act.put, List.setIfInBounds_toArray, List.set_cons_zero, List.set_cons_succ]
    refine rtake (i := 12) (d := (some 22)) (v := ?_) rfl (by kernel_rfl) (by kernel_rfl) (by kernel_rfl) (by kernel_rfl) (fun _ _ _ h => h) (by kernel_rfl) (by assumption) ?_ ?_
    rotate_left 1
    · (intro wI hSI; (try dsimp only at hSI); go_simp; (try with_reducible rfl))
    simp only [Act.put, List.setIfInBounds_toArray, List.set_cons_zero, List.set_cons_succ]
    refine rtake (i := 13) (d := (some 23)) (v := ?_) rfl (by kernel_rfl) (by kernel_rfl) (by kernel_rfl) (by kernel_rfl) (fun _ _ _ h => h) (by kernel_rfl) (by assumption) ?_ ?_
    rotate_left 1
    · (intro wI hSI; (try dsimp only at hSI); go_simp; (try with_reducible rfl))
    simp only [Act.put, List.setIfInBounds_toArray, List.set_cons_zero, List.set_cons_succ]
    refine rtake (i := 14) (d := (some 24)) (v := ?_) rfl (by kernel_rfl) (by kernel_rfl) (by kernel_rfl) (by kernel_rfl) (fun _ _ _ h => h) (by kernel_rfl) (by assumption) ?_ ?_
    rotate_left 1
    · (intro wI hSI; (try dsimp only at hSI); go_simp; (try with_reducible rfl))
    simp only [Act.put, List.setIfInBounds_toArray, List.set_cons_zero, List.set_cons_succ]
    refine rtake (i := 15) (d := (some 25)) (v := ?_) rfl (by kernel_rfl) (by kernel_rfl) (by kernel_rfl) (by kernel_rfl) (fun _ _ _ h => h) (by kernel_rfl) (by assumption) ?_ ?_
    rotate_left 1
    · (intro wI hSI; (try dsimp only at hSI); go_simp; (try with_reducible rfl))
    simp only [Act.put, List.setIfInBounds_toArray, List.set_cons_zero, List.set_cons_succ]
    refine rtake (i := 16) (d := (some 26)) (v := ?_) rfl (by kernel_rfl) (by kernel_rfl) (by kernel_rfl) (by kernel_rfl) (fun _ _ _ h => h) (by kernel_rfl) (by assumption) ?_ ?_
    rotate_left 1
    · (intro wI hSI; (try dsimp only at hSI); go_simp; (try with_reducible rfl))
    simp only [Act.put, List.setIfInBounds_toArray, List.set_cons_zero, List.set_cons_succ]
    refine rtake (i := 17) (d := (some 27)) (v := ?_) rfl (by kernel_rfl) (by kernel_rfl) (by kernel_rfl) (by kernel_rfl) (fun _ _ _ h => h) (by kernel_rfl) (by assumption) ?_ ?_
    rotate_left 1
    · (intro wI hSI; (try dsimp only at hSI); go_simp; (try with_reducible rfl))
    simp only [Act.put, List.setIfInBounds_toArray, List.set_cons_zero, List.set_cons_succ]
    refine rtake (i := 18) (d := (some 28)) (v := ?_) rfl (by kernel_rfl) (by kernel_rfl) (by kernel_rfl) (by kernel_rfl) (fun _ _ _ h => h) (by kernel_rfl) (by assumption) ?_ ?_
    rotate_left 1
    · (intro wI hSI; (try dsimp only at hSI); go_simp; (try with_reducible rfl))
    simp only [Act.put, List.setIfInBounds_toArray, List.set_cons_zero, List.set_cons_succ]
    refine rtake (i := 19) (d := (some 29)) (v := ?_) rfl (by kernel_rfl) (by kernel_rfl) (by kernel_rfl) (by kernel_rfl) (fun _ _ _ h => h) (by kernel_rfl) (by assumption) ?_ ?_
    rotate_left 1
    · (intro wI hSI; (try dsimp only at hSI); go_simp; (try with_reducible rfl))
    simp only [Act.put, List.setIfInBounds_toArray, List.set_cons_zero, List.set_cons_succ]
    refine rtake (i := 20) (d := (some 30)) (v := ?_) rfl (by kernel_rfl) (by kernel_rfl) (by kernel_rfl) (by kernel_rfl) (fun _ _ _ h => h) (by kernel_rfl) (by assumption) ?_ ?_
    rotate_left 1
    · (intro wI hSI; (try dsimp only at hSI); go_simp; (try with_reducible rfl))
    simp only [Act.put, List.setIfInBounds_toArray, List.set_cons_zero, List.set_cons_succ]
    refine rtake (i := 21) (d := (some 31)) (v := ?_) rfl (by kernel_rfl) (by kernel_rfl) (by kernel_rfl) (by kernel_rfl) (fun _ _ _ h => h) (by kernel_rfl) (by assumption) ?_ ?_
    rotate_left 1
    · (intro wI hSI; (try dsimp only at hSI); go_simp; (try with_reducible rfl))
    simp only [Act.put, List.setIfInBounds_toArray, List.set_cons_zero, List.set_cons_succ]
    refine rtake (i := 22) (d := (some 32)) (v := ?_) rfl (by kernel_rfl) (by kernel_rfl) (by kernel_rfl) (by kernel_rfl) (fun _ _ _ h => h) (by kernel_rfl) (by assumption) ?_ ?_
    rotate_left 1
    · (intro wI hSI; (try dsimp only at hSI); go_simp; (try with_reducible rfl))
    simp only [Act.put, List.setIfInBounds_toArray, List.set_cons_zero, List.set_cons_succ]
    refine rtake (i := 23) (d := (some 33)) (v := ?_) rfl (by kernel_rfl) (by kernel_rfl) (by kernel_rfl) (by kernel_rfl) (fun _ _ _ h => h) (by kernel_rfl) (by assumption) ?_ ?_
    rotate_left 1
    · (intro wI hSI; (try dsimp only at hSI); go_simp; (try with_reducible rfl))
    simp only [Act.put, List.setIfInBounds_toArray, List.set_cons_zero, List.set_cons_succ]
    refine rtake (i := 24) (d := (some 34)) (v := ?_) rfl (by kernel_rfl) (by kernel_rfl) (by kernel_rfl) (by kernel_rfl) (fun _ _ _ h => h) (by kernel_rfl) (by assumption) ?_ ?_
    rotate_left 1
    · (intro wI hSI; (try dsimp only at hSI); go_simp; (try with_reducible rfl))
    simp only [Act.put, List.setIfInBounds_toArray, List.set_cons_zero, List.set_cons_succ]
    refine rtake (i := 25) (d := (some 35)) (v := ?_) rfl (by kernel_rfl) (by kernel_rfl) (by kernel_rfl) (by kernel_rfl) (fun _ _ _ h => h) (by kernel_rfl) (by assumption) ?_ ?_
    rotate_left 1
    · (intro wI hSI; (try dsimp only at hSI); go_simp; (try with_reducible rfl))
    simp only [Act.put, List.setIfInBounds_toArray, List.set_cons_zero, List.set_cons_succ]
    refine rtake (i := 26) (d := (some 36)) (v := ?_) rfl (by kernel_rfl) (by kernel_rfl) (by kernel_rfl) (by kernel_rfl) (fun _ _ _ h => h) (by kernel_rfl) (by assumption) ?_ ?_
    rotate_left 1
    · (intro wI hSI; (try dsimp only at hSI); go_simp; (try with_reducible rfl))
    simp only [Act.put, List.setIfInBounds_toArray, List.set_cons_zero, List.set_cons_succ]
    refine rtake (i := 27) (d := (some 37)) (v := ?_) rfl (by kernel_rfl) (by kernel_rfl) (by kernel_rfl) (by kernel_rfl) (fun _ _ _ h => h) (by kernel_rfl) (by assumption) ?_ ?_
    rotate_left 1
    · (intro wI hSI; (try dsimp only at hSI); go_simp; (try with_reducible rfl))
    simp only [Act.put, List.setIfInBounds_toArray, List.set_cons_zero, List.set_cons_succ]
    refine rtake (i := 28) (d := (some 38)) (v := ?_) rfl (by kernel_rfl) (by kernel_rfl) (by kernel_rfl) (by kernel_rfl) (fun _ _ _ h => h) (by kernel_rfl) (by assumption) ?_ ?_
    rotate_left 1
    · (intro wI hSI; (try dsimp only at hSI); go_simp; (try with_reducible rfl))
    simp only [Act.put, List.setIfInBounds_toArray, List.set_cons_zero, List.set_cons_succ]
    refine rtake (i := 29) (d := (some 39)) (v := ?_) rfl (by kernel_rfl) (by kernel_rfl) (by kernel_rfl) (by kernel_rfl) (fun _ _ _ h => h) (by kernel_rfl) (by assumption) ?_ ?_
    rotate_left 1
    · (intro wI hSI; (try dsimp only at hSI); go_simp; (try with_reducible rfl))
    simp only [Act.put, List.setIfInBounds_toArray, List.set_cons_zero, List.set_cons_succ]
    refine rtake (i := 30) (d := (some 40)) (v := ?_) rfl (by kernel_rfl) (by kernel_rfl) (by kernel_rfl) (by kernel_rfl) (fun _ _ _ h => h) (by kernel_rfl) (by assumption) ?_ ?_
    rotate_left 1
    · (intro wI hSI; (try dsimp only at hSI); go_simp; (try with_reducible rfl))
    simp only [Act.put, List.setIfInBounds_toArray, List.set_cons_zero, List.set_cons_succ]
    refine rtake (i := 31) (d := (some 41)) (v := ?_) rfl (by kernel_rfl) (by kernel_rfl) (by kernel_rfl) (by kernel_rfl) (fun _ _ _ h => h) (by kernel_rfl) (by assumption) ?_ ?_
    rotate_left 1
    · (intro wI hSI; (try dsimp only at hSI); go_simp; (try with_reducible rfl))
    simp only [Act.put, List.setIfInBounds_toArray, List.set_cons_zero, List.set_cons_succ]
    refine rtake (i := 32) (d := (some 42)) (v := ?_) rfl (by kernel_rfl) (by kernel_rfl) (by kernel_rfl) (by kernel_rfl) (fun _ _ _ h => h) (by kernel_rfl) (by assumption) ?_ ?_
    rotate_left 1
    · (intro wI hSI; (try dsimp only at hSI); go_simp; (try with_reducible rfl))
    simp only [Act.put, List.setIfInBounds_toArray, List.set_cons_zero, List.set_cons_succ]
    refine rtake (i := 33) (d := (some 43)) (v := ?_) rfl (by kernel_rfl) (by kernel_rfl) (by kernel_rfl) (by kernel_rfl) (fun _ _ _ h => h) (by kernel_rfl) (by assumption) ?_ ?_
    rotate_left 1
    · (intro wI hSI; (try dsimp only at hSI); go_simp; (try with_reducible rfl))
    simp only [Act.put, List.setIfInBounds_toArray, List.set_cons_zero, List.set_cons_succ]
    refine rtake (i := 34) (d := (some 44)) (v := ?_) rfl (by kernel_rfl) (by kernel_rfl) (by kernel_rfl) (by kernel_rfl) (fun _ _ _ h => h) (by kernel_rfl) (by assumption) ?_ ?_
    rotate_left 1
    · (intro wI hSI; (try dsimp only at hSI); go_simp; (try with_reducible rfl))
    simp only [Act.put, List.setIfInBounds_toArray, List.set_cons_zero, List.set_cons_succ]
    refine rtake (i := 35) (d := (some 45)) (v := ?_) rfl (by kernel_rfl) (by kernel_rfl) (by kernel_rfl) (by kernel_rfl) (fun _ _ _ h => h) (by kernel_rfl) (by assumption) ?_ ?_
    rotate_left 1
    · (intro wI hSI; (try dsimp only at hSI); go_simp; (try with_reducible rfl))
    simp only [Act.put, List.setIfInBounds_toArray, List.set_cons_zero, List.set_cons_succ]
    refine rtake (i := 36) (d := (some 46)) (v := ?_) rfl (by kernel_rfl) (by kernel_rfl) (by kernel_rfl) (by kernel_rfl) (fun _ _ _ h => h) (by kernel_rfl) (by assumption) ?_ ?_
    rotate_left 1
    · (intro wI hSI; (try dsimp only at hSI); go_simp; (try with_reducible rfl))
    simp only [Act.put, List.setIfInBounds_toArray, List.set_cons_zero, List.set_cons_succ]
    refine rtake (i := 37) (d := (some 47)) (v := ?_) rfl (by kernel_rfl) (by kernel_rfl) (by kernel_rfl) (by kernel_rfl) (fun _ _ _ h => h) (by kernel_rfl) (by assumption) ?_ ?_
    rotate_left 1
    · (intro wI hSI; (try dsimp only at hSI); go_simp; (try with_reducible rfl))
    simp only [Act.put, List.setIfInBounds_toArray, List.set_cons_zero, List.set_cons_succ]
    refine rtake (i := 38) (d := (some 48)) (v := ?_) rfl (by kernel_rfl) (by kernel_rfl) (by kernel_rfl) (by kernel_rfl) (fun _ _ _ h => h) (by kernel_rfl) (by assumption) ?_ ?_
    rotate_left 1
    · (intro wI hSI; (try dsimp only at hSI); go_simp; (try with_reducible rfl))
    simp only [Act.put, List.setIfInBounds_toArray, List.set_cons_zero, List.set_cons_succ]
    refine rtake (i := 39) (d := (some 49)) (v := ?_) rfl (by kernel_rfl) (by kernel_rfl) (by kernel_rfl) (by kernel_rfl) (fun _ _ _ h => h) (by kernel_rfl) (by assumption) ?_ ?_
    rotate_left 1
    · (intro wI hSI; (try dsimp only at hSI); go_simp; (try with_reducible rfl))
    simp only [Act.put, List.setIfInBounds_toArray, List.set_cons_zero, List.set_cons_succ]
    refine rtake (i := 40) (d := (some 50)) (v := ?_) rfl (by kernel_rfl) (by kernel_rfl) (by kernel_rfl) (by kernel_rfl) (fun _ _ _ h => h) (by kernel_rfl) (by assumption) ?_ ?_
    rotate_left 1
    · (intro wI hSI; (try dsimp only at hSI); go_simp; (try with_reducible rfl))
    simp only [Act.put, List.setIfInBounds_toArray, List.set_cons_zero, List.set_cons_succ]
    refine rtake (i := 41) (d := (some 51)) (v := ?_) rfl (by kernel_rfl) (by kernel_rfl) (by kernel_rfl) (by kernel_rfl) (fun _ _ _ h => h) (by kernel_rfl) (by assumption) ?_ ?_
    rotate_left 1
    · (intro wI hSI; (try dsimp only at hSI); go_simp; (try with_reducible rfl))
    simp only [Act.put, List.setIfInBounds_toArray, List.set_cons_zero, List.set_cons_succ]
    refine rtake (i := 42) (d := (some 52)) (v := ?_) rfl (by kernel_rfl) (by kernel_rfl) (by kernel_rfl) (by kernel_rfl) (fun _ _ _ h => h) (by kernel_rfl) (by assumption) ?_ ?_
    rotate_left 1
    · (intro wI hSI; (try dsimp only at hSI); go_simp; (try with_reducible rfl))
    simp only [Act.put, List.setIfInBounds_toArray, List.set_cons_zero, List.set_cons_succ]
    refine rtake (i := 43) (d := (some 53)) (v := ?_) rfl (by kernel_rfl) (by kernel_rfl) (by kernel_rfl) (by kernel_rfl) (fun _ _ _ h => h) (by kernel_rfl) (by assumption) ?_ ?_
    rotate_left 1
    · (intro wI hSI; (try dsimp only at hSI); go_simp; (try with_reducible rfl))
    simp only [Act.put, List.setIfInBounds_toArray, List.set_cons_zero, List.set_cons_succ]
    refine rtake (i := 44) (d := (some 54)) (v := ?_) rfl (by kernel_rfl) (by kernel_rfl) (by kernel_rfl) (by kernel_rfl) (fun _ _ _ h => h) (by kernel_rfl) (by assumption) ?_ ?_
    rotate_left 1
    · (intro wI hSI; (try dsimp only at hSI); go_simp; (try with_reducible rfl))
    simp only [Act.put, List.setIfInBounds_toArray, List.set_cons_zero, List.set_cons_succ]
    refine rtake (i := 45) (d := (some 55)) (v := ?_) rfl (by kernel_rfl) (by kernel_rfl) (by kernel_rfl) (by kernel_rfl) (fun _ _ _ h => h) (by kernel_rfl) (by assumption) ?_ ?_
    rotate_left 1
    · (intro wI hSI; (try dsimp only at hSI); go_simp; (try with_reducible rfl))
    simp only [Act.put, List.setIfInBounds_toArray, List.set_cons_zero, List.set_cons_succ]
    refine rtake (i := 46) (d := (some 56)) (v := ?_) rfl (by kernel_rfl) (by kernel_rfl) (by kernel_rfl) (by kernel_rfl) (fun _ _ _ h => h) (by kernel_rfl) (by assumption) ?_ ?_
    rotate_left 1
    · (intro wI hSI; (try dsimp only at hSI); go_simp; (try with_reducible rfl))
    simp only [Act.put, List.setIfInBounds_toArray, List.set_cons_zero, List.set_cons_succ]
    refine rtake (i := 47) (d := (some 57)) (v := ?_) rfl (by kernel_rfl) (by kernel_rfl) (by kernel_rfl) (by kernel_rfl) (fun _ _ _ h => h) (by kernel_rfl) (by assumption) ?_ ?_
    rotate_left 1
    · (intro wI hSI; (try dsimp only at hSI); go_simp; (try with_reducible rfl))
    simp only [Act.put, List.setIfInBounds_toArray, List.set_cons_zero, List.set_cons_succ]
    refine rcall (i := 48) (d := (some 58)) (by kernel_rfl) rfl (by kernel_rfl) (fun K hK => ?_)
    rw [if_pos (by kernel_rfl)]; go_simp; go_at_call 56; refine (HEq.out _ (hs.below hHeld.2) (hs2.below hHeld.2)).mono ?_; rintro e w1 ⟨rfl, k1, rfl⟩
    refine hK.out _ _ ?hS (fun hHeld => ?_)
    case hS => exact ⟨hHeld.1, below_drewN hHeld.2 _⟩
    clear hK K
    simp only [Act.put, List.setIfInBounds_toArray, List.set_cons_zero, List.set_cons_succ]
    refine rtake (i := 49) (d := (some 59)) (v := ?_) rfl (by kernel_rfl) (by kernel_rfl) (by kernel_rfl) (by kernel_rfl) (fun _ _ _ h => h) (by kernel_rfl) (by assumption) ?_ ?_
    rotate_left 1
    · (intro wI hSI; (try dsimp only at hSI); go_simp; (try with_reducible rfl))
    simp only [Act.put, List.setIfInBounds_toArray, List.set_cons_zero, List.set_cons_succ]
    refine rtake (i := 50) (d := (some 6)) (v := ?_) rfl (by kernel_rfl) (by kernel_rfl) (by kernel_rfl) (by kernel_rfl) (fun _ _ _ h => h) (by kernel_rfl) (by assumption) ?_ ?_
    rotate_left 1
    · (intro wI hSI; (try dsimp only at hSI); go_simp; (try with_reducible rfl))
    simp only [Act.put, List.setIfInBounds_toArray, List.set_cons_zero, List.set_cons_succ]
    refine wpAnyH_done (by kernel_rfl) ?_ _
    have hb1 := hHeld.2
    clear hB_l hB_0 hB_1 hB_2 hB_3 hB_4
    clear hD_l hD_0 hD_1 hD_2 hD_3 hD_4
    clear hHeld
    have hB1 := hB.below hb1
    have hD1 := hD.below hb1
    have hO1 := hO.below hb1
    have hsa1 := hsa.below hb1
    have hsb1 := hsb.below hb1
    clear hB hD hO hP hsa hsb hs hs2 hb0
    generalize World.drewN _ k1 = W1 at *
    have hD1_l := hD1.lt; have hD1_0 := hD1.cell 0; have hD1_1 := hD1.cell 1; have hD1_2 := hD1.cell 2; have hD1_3 := hD1.cell 3; have hD1_4 := hD1.cell 4; simp at hD1_0 hD1_1 hD1_2 hD1_3 hD1_4
    go_wp2_with fail
    go_loopg [67, 7] m.length (fun gk i fv wr => ∃ k : Nat, i = .int .i64 k ∧ k ≤ m.length ∧ Hid (gk = m.length - k) ∧ Own W1.heap.size 63 wr fv (freshA l (m.take k)) ∧ Below W1.heap.size W1 wr)
    case atStart => exact ⟨0, rfl, by omega, rfl, Own.nil _ _ _, Below.refl _ _⟩
    case round =>
      clear hD1_l hD1_0 hD1_1 hD1_2 hD1_3 hD1_4
      obtain ⟨k, rfl, hk, hgk, hownf, hb⟩ := hrel
      by_cases hlt : k < m.length
      · obtain ⟨bb, off, ha, c0, c1, c2, c3', c4'⟩ := (hsb1.below hb).arv hlt
        have Hst := Lib.hid (HFs.out k hlt)
        have Hfk := Lib.hid (HFlk.out k)
        have HCx := Lib.hid (fun W (h : SA W la l) => HCt.out W m[k] h)
        have Ha := Lib.hid ha
        rw [ha]
        clear ha
        have hsar := hsa1.below hb
        have hBr := hB1.below hb
        generalize hmk : m[k] = x at *
        clear hmk
        generalize decide (x ∈ l) = fd at *
        obtain ⟨x1, x2, x3, x4, x5⟩ := x
        unfold encA at HCx
        simp only at c0 c1 c2 c3' c4'
        generalize freshA l (m.take k) = fl at *
        have hX := Box.new wr 63 #[.string x1, .int .i64 x2, .int .i64 x3, .string x4, .string x5]
        have hba := hb.alloc hb.size (.cells #[.string x1, .int .i64 x2, .int .i64 x3, .string x4, .string x5] 63)
        have hBa := hBr.alloc (.cells #[.string x1, .int .i64 x2, .int .i64 x3, .string x4, .string x5] 63)
        have hsaa := hsar.alloc (.cells #[.string x1, .int .i64 x2, .int .i64 x3, .string x4, .string x5] 63)
        have hownfa := hownf.alloc (.cells #[.string x1, .int .i64 x2, .int .i64 x3, .string x4, .string x5] 63)
        have hk1 : (0 : Int) ≤ (k : Int) := by omega
        have hk2 : (k : Int) < (m.length : Int) := by omega
        clear hBr hsar hownf hb
        go_upto_region 8 with (fail)
        clear c0 c1 c2 c3' c4' hk1 hk2
        have hxb : wr.heap.size < (wr.alloc (.cells #[.string x1, .int .i64 x2, .int .i64 x3, .string x4, .string x5] 63)).heap.size := by simp
        generalize wr.alloc (.cells #[.string x1, .int .i64 x2, .int .i64 x3, .string x4, .string x5] 63) = wa at *
        generalize wr.heap.size = nx at *
        have hBa_l := hBa.lt; have hBa_0 := hBa.cell 0; have hBa_1 := hBa.cell 1; have hBa_2 := hBa.cell 2; have hBa_3 := hBa.cell 3; have hBa_4 := hBa.cell 4; simp at hBa_0 hBa_1 hBa_2 hBa_3 hBa_4
        have hX_l := hX.lt; have hX_0 := hX.cell 0; have hX_1 := hX.cell 1; have hX_2 := hX.cell 2; have hX_3 := hX.cell 3; have hX_4 := hX.cell 4; simp at hX_0 hX_1 hX_2 hX_3 hX_4
        refine wp_region_held_drew (S := (fun wx => (wx.cell? ⟨b, 4, none⟩ = some (.slice la l.length cap) ∧ wx.cell? ⟨nx, 0, none⟩ = some (.string x1) ∧ wx.cell? ⟨nx, 1, none⟩ = some (.int .i64 x2) ∧ wx.cell? ⟨nx, 2, none⟩ = some (.int .i64 x3) ∧ wx.cell? ⟨nx, 3, none⟩ = some (.string x4) ∧ wx.cell? ⟨nx, 4, none⟩ = some (.string x5)) ∧ Below wa.heap.size wa wx)) (by kernel_rfl) ?hS (fun hHeld => ?_)
        case hS => exact ⟨⟨hBa_4, hX_0, hX_1, hX_2, hX_3, hX_4⟩, (Below.refl _ _).drew⟩
        refine rtake (i := 0) (d := (some 71)) (v := ?_) rfl (by kernel_rfl) (by kernel_rfl) (by kernel_rfl) (by kernel_rfl) (fun _ _ _ h => h) (by kernel_rfl) (by assumption) ?_ ?_
        rotate_left 1
        · (intro wI hSI; (try dsimp only at hSI); go_simp; (try with_reducible rfl))
        simp only [Act.put, List.setIfInBounds_toArray, List.set_cons_zero, List.set_cons_succ]
        refine rtake (i := 1) (d := (some 72)) (v := ?_) rfl (by kernel_rfl) (by kernel_rfl) (by kernel_rfl) (by kernel_rfl) (fun _ _ _ h => h) (by kernel_rfl) (by assumption) ?_ ?_
        rotate_left 1
        · (intro wI hSI; (try dsimp only at hSI); go_simp; (try with_reducible rfl))
        simp only [Act.put, List.setIfInBounds_toArray, List.set_cons_zero, List.set_cons_succ]
        refine rtake (i := 2) (d := (some 73)) (v := ?_) rfl (by kernel_rfl) (by kernel_rfl) (by kernel_rfl) (by kernel_rfl) (fun _ _ _ h => h) (by kernel_rfl) (by assumption) ?_ ?_
        rotate_left 1
        · (intro wI hSI; (try dsimp only at hSI); go_simp; (try with_reducible rfl))
        simp only [Act.put, List.setIfInBounds_toArray, List.set_cons_zero, List.set_cons_succ]
        refine rtake (i := 3) (d := (some 74)) (v := ?_) rfl (by kernel_rfl) (by kernel_rfl) (by kernel_rfl) (by kernel_rfl) (fun _ _ _ h => h) (by kernel_rfl) (by assumption) ?_ ?_
        rotate_left 1
        · (intro wI hSI; (try dsimp only at hSI); go_simp; (try with_reducible rfl))
        simp only [Act.put, List.setIfInBounds_toArray, List.set_cons_zero, List.set_cons_succ]
        refine rtake (i := 4) (d := (some 75)) (v := ?_) rfl (by kernel_rfl) (by kernel_rfl) (by kernel_rfl) (by kernel_rfl) (fun _ _ _ h => h) (by kernel_rfl) (by assumption) ?_ ?_
        rotate_left 1
        · (intro wI hSI; (try dsimp only at hSI); go_simp; (try with_reducible rfl))
        simp only [Act.put, List.setIfInBounds_toArray, List.set_cons_zero, List.set_cons_succ]
        refine rcall (i := 5) (d := (some 76)) (by kernel_rfl) rfl (by kernel_rfl) (fun K hK => ?_)
        go_simp
        go_at_call 61; refine (HCx.out _ (hsaa.below hHeld.2)).mono ?_; rintro e w2 ⟨rfl, hb2⟩
        refine hK.out _ _ ?hS (fun hHeld => ?_)
        case hS => exact ⟨⟨cell_later hb2 hHeld.1.1, cell_later hb2 hHeld.1.2.1, cell_later hb2 hHeld.1.2.2.1, cell_later hb2 hHeld.1.2.2.2.1, cell_later hb2 hHeld.1.2.2.2.2.1, cell_later hb2 hHeld.1.2.2.2.2.2⟩, below_next hHeld.2 hb2⟩
        clear hK K
        simp only [Act.put, List.setIfInBounds_toArray, List.set_cons_zero, List.set_cons_succ]
        refine rtake (i := 6) (d := (some 77)) (v := ?_) rfl (by kernel_rfl) (by kernel_rfl) (by kernel_rfl) (by kernel_rfl) (fun _ _ _ h => h) (by kernel_rfl) (by assumption) ?_ ?_
        rotate_left 1
        · (intro wI hSI; (try dsimp only at hSI); go_simp; (try with_reducible rfl))
        simp only [Act.put, List.setIfInBounds_toArray, List.set_cons_zero, List.set_cons_succ]
        refine wpAnyH_done (by kernel_rfl) ?_ _
        have hb12 := hHeld.2
        have hbx := below_next hba hb12
        have hX2 := hX.below hb12
        have hown2 := hownfa.below hb12
        clear hBa_l hBa_0 hBa_1 hBa_2 hBa_3 hBa_4
        clear hX_l hX_0 hX_1 hX_2 hX_3 hX_4
        clear hHeld hb2 hX hba hBa hsaa hownfa hb12
        have hz2 := hbx.size
        cases fd
        · have Hst2 : Hid (freshA l (m.take (k + 1)) = fl ++ [(x1, x2, x3, x4, x5)]) := by show _ = _; rw [Hst.out]; rfl
          have hX2_l := hX2.lt; have hX2_0 := hX2.cell 0; have hX2_1 := hX2.cell 1; have hX2_2 := hX2.cell 2; have hX2_3 := hX2.cell 3; have hX2_4 := hX2.cell 4; simp at hX2_0 hX2_1 hX2_2 hX2_3 hX2_4
          have Hol2 := Lib.hid hown2.lt
          have hown3 := hown2.alloc (.cells #[.string x1, .int .i64 x2, .int .i64 x3, .string x4, .string x5] 63)
          have hbx3 := hbx.alloc hz2 (.cells #[.string x1, .int .i64 x2, .int .i64 x3, .string x4, .string x5] 63)
          clear hX2_l hX2_0 hX2_1 hX2_2 hX2_3 hX2_4
          clear hown2
          have hX2_l := hX2.lt; have hX2_0 := hX2.cell 0; have hX2_1 := hX2.cell 1; have hX2_2 := hX2.cell 2; have hX2_3 := hX2.cell 3; have hX2_4 := hX2.cell 4; simp at hX2_0 hX2_1 hX2_2 hX2_3 hX2_4
          go_wp2_with (at_builtin; refine wpList_append_lie (α := Arv) rfl _ _ 30 rfl 63 64 (.agg #[.string ⟨#[]⟩, .int .i64 0, .int .i64 0, .string ⟨#[]⟩, .string ⟨#[]⟩]) Tryz.underlying30 infoArr rfl _ fl rfl hown3 (x1, x2, x3, x4, x5) _ rfl (Box.new _ _ _) (by have := Hfk.out; omega) (by have := Hfk.out; omega) (by simp; omega) ?_; intro g9 cap9 w9 hown9 hg9 hat9; have hb9 := hbx3.grown hg9 (by simp; omega) (fun j hj => (Hol2.out j hj).1))
          rw [← Ha.out]
          go_roundg (m.length - (k + 1))
          case measure => have := hgk.out; omega
          case rel => exact ⟨k + 1, by go_num, by omega, rfl, by rw [Hst2.out]; exact hown9, hb9⟩
        · have Hst2 : Hid (freshA l (m.take (k + 1)) = fl) := by show _ = _; rw [Hst.out]; rfl
          go_wp2_with fail
          rw [← Ha.out]
          go_roundg (m.length - (k + 1))
          case measure => have := hgk.out; omega
          case rel => exact ⟨k + 1, by go_num, by omega, rfl, by rw [Hst2.out]; exact hown2, hbx⟩
      · obtain rfl : k = m.length := by omega
        rw [Hfin.out] at hownf
        have Hfl := HFl.out
        obtain ⟨fa, fc, rfl, hfsa, -, -⟩ := hownf.form
        have hB2 := hB1.below hb
        have hO2 := hO1.below hb
        have hbw := below_next hb1 hb
        have hd : decide ((2000 : Int) < (l.length : Int) + (fr.length : Int)) = false := decide_eq_false (by omega)
        have hww : IntKind.i64.wrap ((l.length : Int) + (fr.length : Int)) = (l.length : Int) + (fr.length : Int) := IntWalk.i64_in _ (by omega)
        have hnb : ¬ (Value.slice la l.length cap).ownBlock = some b := fun e => by have := (Hol.out _ e).1; omega
        have hbz := hbw.size
        clear hB1 hO1 hb hb1 hD1
        have hB2_l := hB2.lt; have hB2_0 := hB2.cell 0; have hB2_1 := hB2.cell 1; have hB2_2 := hB2.cell 2; have hB2_3 := hB2.cell 3; have hB2_4 := hB2.cell 4; simp at hB2_0 hB2_1 hB2_2 hB2_3 hB2_4
        have HBx := Lib.hid hB2
        go_wp2_with (at_builtin; refine wpList_append_lieAll (α := Arv) rfl _ _ 30 rfl 63 64 (.agg #[.string ⟨#[]⟩, .int .i64 0, .int .i64 0, .string ⟨#[]⟩, .string ⟨#[]⟩]) Tryz.underlying30 infoArr rfl _ l rfl hO2 fr fa fc rfl hfsa (by omega) (by omega) (by omega) ?_; intro a9 cap9 w9 hown9 hg9 hat9; have hB9 := HBx.out.kp ((Kp.refl (fun j => (Value.slice la l.length cap).ownBlock = some j) _).grown hg9 (fun j hj => .inl hj)) hnb; have hc9 := hB9.cell 4; have hf9 := hB9.frozen 4; simp at hc9; go_upto_region 14 with (fail))
        have hkB := (Kp.refl (fun j => (Value.slice la l.length cap).ownBlock = some j) wr).grown hg9 (fun j hj => .inl hj)
        have hne9 : ∀ j, (Value.slice a9 (l.length + fr.length) cap9).ownBlock = some j → ¬ (j = b) := fun j hj e => by
          rcases hat9 j hj with h1 | h1
          · exact hnb (by rw [← e]; exact h1)
          · have := HBx.out.lt; omega
        have hk6 := (Kp.refl (fun j => j = b) w9).setCell (p := ⟨b, 4, none⟩) (.inl rfl) (.slice a9 (l.length + fr.length) cap9)
        have hown6 := hown9.kp hk6 hne9
        have hbx6 : Box (w9.setCell ⟨b, 4, none⟩ (.slice a9 (l.length + fr.length) cap9)) b 99 #[.int .i64 o, .int .i64 a, .int .i64 f, .slice a3 s.length c3, .slice a9 (l.length + fr.length) cap9] := by simpa using hB9.set 4 (.slice a9 (l.length + fr.length) cap9)
        have hkD := (hkB.mono (Y := fun j => j = b ∨ (Value.slice la l.length cap).ownBlock = some j) (fun k hk => .inl (.inr hk))).trans (hk6.mono (Y := fun j => j = b ∨ (Value.slice la l.length cap).ownBlock = some j) (fun k hk => .inl (.inl hk)))
        have HatW : Hid (∀ j, (Value.slice a9 (l.length + fr.length) cap9).ownBlock = some j → (Value.slice la l.length cap).ownBlock = some j ∨ w.heap.size ≤ j) := fun j hj => (hat9 j hj).imp id (fun h => Nat.le_trans hbz h)
        have Hne9 := Lib.hid hne9
        clear hB2_l hB2_0 hB2_1 hB2_2 hB2_3 hB2_4
        clear hB2 hO2 HBx hat9 hg9 hkB hk6 hown9 hB9 hc9 hf9 hne9 hfsa hownf hd hww
        generalize w9.setCell ⟨b, 4, none⟩ (.slice a9 (l.length + fr.length) cap9) = W9 at *
        have hbx6_l := hbx6.lt; have hbx6_0 := hbx6.cell 0; have hbx6_1 := hbx6.cell 1; have hbx6_2 := hbx6.cell 2; have hbx6_3 := hbx6.cell 3; have hbx6_4 := hbx6.cell 4; simp at hbx6_0 hbx6_1 hbx6_2 hbx6_3 hbx6_4
        go_wp2_with fail
        refine (HSo.out _ _ hown6).mono ?_
        rintro e w10 ⟨rfl, hown10, hk10⟩
        have hbx10 := hbx6.kp hk10 (fun e => Hne9.out _ e rfl)
        have hlj : (l.length + fr.length) = l.length + fr.length := rfl
        clear hbx6_l hbx6_0 hbx6_1 hbx6_2 hbx6_3 hbx6_4
        clear hbx6 hown6
        have h1 := ((Kp.of_below (X := fun j => (j = b ∨ (Value.slice la l.length cap).ownBlock = some j) ∨ (Value.slice a9 (l.length + fr.length) cap9).ownBlock = some j) hbw).trans (hkD.mono (fun k hk => .inl (.inl hk)))).trans (hk10.mono (fun k hk => .inl (.inr hk)))
        have hkE : Kp (fun j => j = b ∨ (Value.slice la l.length cap).ownBlock = some j) w w10 := h1.mono (fun k hk => hk.elim .inl (fun hk => (HatW.out k hk).elim (fun h => .inl (.inr h)) .inr))
        clear h1 hkD hk10
        go_wp2_with fail
        go_ret2
        first | exact ⟨_, rfl, ⟨hbx10, hown10, hbs⟩, hkE, HatW.out⟩ | exact ⟨rfl, _, ⟨hbx10, hown10, hbs⟩, hkE, HatW.out⟩
  · have HJE : Hid (joinE f f1 = 13) := if_neg hf
    have HJN : Hid (joinN f f1 l m = 0) := if_neg hf
    have HJL : Hid (joinL f f1 l m = l) := if_neg hf
    rw [HJE.out, HJN.out, HJL.out]
    have hqf : (f == f1) = false := by simpa using hf
    clear hf HJE HJN HJL
    go_enter Tryz.func29, Tryz.ntmps29
    go_upto_region 1 with (fail)
    have hB_l := hB.lt; have hB_0 := hB.cell 0; have hB_1 := hB.cell 1; have hB_2 := hB.cell 2; have hB_3 := hB.cell 3; have hB_4 := hB.cell 4; simp at hB_0 hB_1 hB_2 hB_3 hB_4
    have hD_l := hD.lt; have hD_0 := hD.cell 0; have hD_1 := hD.cell 1; have hD_2 := hD.cell 2; have hD_3 := hD.cell 3; have hD_4 := hD.cell 4; simp at hD_0 hD_1 hD_2 hD_3 hD_4
    refine wp_region_held_drew (S := (fun wx => (wx.cell? ⟨b, 0, none⟩ = some (.int .i64 o) ∧ wx.cell? ⟨b, 1, none⟩ = some (.int .i64 a) ∧ wx.cell? ⟨b, 2, none⟩ = some (.int .i64 f) ∧ wx.cell? ⟨b, 3, none⟩ = some (.slice a3 s.length c3) ∧ wx.cell? ⟨b2, 0, none⟩ = some (.int .i64 o) ∧ wx.cell? ⟨b2, 1, none⟩ = some (.int .i64 a) ∧ wx.cell? ⟨b2, 2, none⟩ = some (.int .i64 f1) ∧ wx.cell? ⟨b2, 3, none⟩ = some (.slice a4 s.length c4)) ∧ Below w.heap.size w wx)) (by kernel_rfl) ?hS (fun hHeld => ?_)
    case hS => exact ⟨⟨hB_0, hB_1, hB_2, hB_3, hD_0, hD_1, hD_2, hD_3⟩, (Below.refl _ _).drew⟩
    refine rtake (i := 0) (d := (some 10)) (v := ?_) rfl (by kernel_rfl) (by kernel_rfl) (by kernel_rfl) (by kernel_rfl) (fun _ _ _ h => h) (by kernel_rfl) (by assumption) ?_ ?_
    rotate_left 1
    · (intro wI hSI; (try dsimp only at hSI); go_simp; (try with_reducible rfl))
    simp only [Act.put, List.setIfInBounds_toArray, List.set_cons_zero, List.set_cons_succ]
    refine rtake (i := 1) (d := (some 11)) (v := ?_) rfl (by kernel_rfl) (by kernel_rfl) (by kernel_rfl) (by kernel_rfl) (fun _ _ _ h => h) (by kernel_rfl) (by assumption) ?_ ?_
    rotate_left 1
    · (intro wI hSI; (try dsimp only at hSI); go_simp; (try with_reducible rfl))
    simp only [Act.put, List.setIfInBounds_toArray, List.set_cons_zero, List.set_cons_succ]
    refine rtake (i := 2) (d := (some 12)) (v := ?_) rfl (by kernel_rfl) (by kernel_rfl) (by kernel_rfl) (by kernel_rfl) (fun _ _ _ h => h) (by kernel_rfl) (by assumption) ?_ ?_
    rotate_left 1
    · (intro wI hSI; (try dsimp only at hSI); go_simp; (try with_reducible rfl))
    simp only [Act.put, List.setIfInBounds_toArray, List.set_cons_zero, List.set_cons_succ]
    refine rtake (i := 3) (d := (some 13)) (v := ?_) rfl (by kernel_rfl) (by kernel_rfl) (by kernel_rfl) (by kernel_rfl) (fun _ _ _ h => h) (by kernel_rfl) (by assumption) ?_ ?_
    rotate_left 1
    · (intro wI hSI; (try dsimp only at hSI); go_simp; (try with_reducible rfl))
    simp only [Act.put, List.setIfInBounds_toArray, List.set_cons_zero, List.set_cons_succ]
    refine rtake (i := 4) (d := (some 14)) (v := ?_) rfl (by kernel_rfl) (by kernel_rfl) (by kernel_rfl) (by kernel_rfl) (fun _ _ _ h => h) (by kernel_rfl) (by assumption) ?_ ?_
    rotate_left 1
    · (intro wI hSI; (try dsimp only at hSI); go_simp; (try with_reducible rfl))
    simp only [Act.put, List.setIfInBounds_toArray, List.set_cons_zero, List.set_cons_succ]
    refine rtake (i := 5) (d := (some 15)) (v := ?_) rfl (by kernel_rfl) (by kernel_rfl) (by kernel_rfl) (by kernel_rfl) (fun _ _ _ h => h) (by kernel_rfl) (by assumption) ?_ ?_
    rotate_left 1
    · (intro wI hSI; (try dsimp only at hSI); go_simp; (try with_reducible rfl))
    simp only [Act.put, List.setIfInBounds_toArray, List.set_cons_zero, List.set_cons_succ]
    refine rtake (i := 6) (d := (some 16)) (v := ?_) rfl (by kernel_rfl) (by kernel_rfl) (by kernel_rfl) (by kernel_rfl) (fun _ _ _ h => h) (by kernel_rfl) (by assumption) ?_ ?_
    rotate_left 1
    · (intro wI hSI; (try dsimp only at hSI); go_simp; (try with_reducible rfl))
    simp only [Act.put, List.setIfInBounds_toArray, List.set_cons_zero, List.set_cons_succ]
    refine rtake (i := 7) (d := (some 17)) (v := ?_) rfl (by kernel_rfl) (by kernel_rfl) (by kernel_rfl) (by kernel_rfl) (fun _ _ _ h => h) (by kernel_rfl) (by assumption) ?_ ?_
    rotate_left 1
    · (intro wI hSI; (try dsimp only at hSI); go_simp; (try with_reducible rfl))
    simp only [Act.put, List.setIfInBounds_toArray, List.set_cons_zero, List.set_cons_succ]
    refine rtake (i := 8) (d := (some 18)) (v := ?_) rfl (by kernel_rfl) (by kernel_rfl) (by kernel_rfl) (by kernel_rfl) (fun _ _ _ h => h) (by kernel_rfl) (by assumption) ?_ ?_
    rotate_left 1
    · (intro wI hSI; (try dsimp only at hSI); go_simp; (try with_reducible rfl))
    simp only [Act.put, List.setIfInBounds_toArray, List.set_cons_zero, List.set_cons_succ]
    refine rtake (i := 9) (d := (some 19)) (v := ?_) rfl (by kernel_rfl) (by kernel_rfl) (by kernel_rfl) (by kernel_rfl) (fun _ _ _ h => h) (by kernel_rfl) (by assumption) ?_ ?_
    rotate_left 1
    · (intro wI hSI; (try dsimp only at hSI); go_simp; (try with_reducible rfl))
    simp only [Act.put, List.setIfInBounds_toArray, List.set_cons_zero, List.set_cons_succ]
    refine rtake (i := 10) (d := (some 20)) (v := ?_) rfl (by kernel_rfl) (by kernel_rfl) (by kernel_rfl) (by kernel_rfl) (fun _ _ _ h => h) (by kernel_rfl) (by assumption) ?_ ?_
    rotate_left 1
    · (intro wI hSI; (try dsimp only at hSI); go_simp; (try with_reducible rfl))
    simp only [Act.put, List.setIfInBounds_toArray, List.set_cons_zero, List.set_cons_succ]
    refine rtake (i := 11) (d := (some 21)) (v := ?_) rfl (by kernel_rfl) (by kernel_rfl) (by kernel_rfl) (by kernel_rfl) (fun _ _ _ h => h) (by kernel_rfl) (by assumption) ?_ ?_
    rotate_left 1
    · (intro wI hSI; (try dsimp only at hSI); go_simp; (try with_reducible rfl))
    simp only [Act.put, List.setIfInBounds_toArray, List.set_cons_zero, List.set_cons_succ]
    refine rtake (i := 12) (d := (some 22)) (v := ?_) rfl (by kernel_rfl) (by kernel_rfl) (by kernel_rfl) (by kernel_rfl) (fun _ _ _ h => h) (by kernel_rfl) (by assumption) ?_ ?_
    rotate_left 1
    · (intro wI hSI; (try dsimp only at hSI); go_simp; (try with_reducible rfl))
    simp only [Act.put, List.setIfInBounds_toArray, List.set_cons_zero, List.set_cons_succ]
    refine rtake (i := 13) (d := (some 23)) (v := ?_) rfl (by kernel_rfl) (by kernel_rfl) (by kernel_rfl) (by kernel_rfl) (fun _ _ _ h => h) (by kernel_rfl) (by assumption) ?_ ?_
    rotate_left 1
    · (intro wI hSI; (try dsimp only at hSI); go_simp; (try with_reducible rfl))
    simp only [Act.put, List.setIfInBounds_toArray, List.set_cons_zero, List.set_cons_succ]
    refine rtake (i := 14) (d := (some 24)) (v := ?_) rfl (by kernel_rfl) (by kernel_rfl) (by kernel_rfl) (by kernel_rfl) (fun _ _ _ h => h) (by kernel_rfl) (by assumption) ?_ ?_
    rotate_left 1
    · (intro wI hSI; (try dsimp only at hSI); go_simp; (try with_reducible rfl))
    simp only [Act.put, List.setIfInBounds_toArray, List.set_cons_zero, List.set_cons_succ]
    refine rtake (i := 15) (d := (some 25)) (v := ?_) rfl (by kernel_rfl) (by kernel_rfl) (by kernel_rfl) (by kernel_rfl) (fun _ _ _ h => h) (by kernel_rfl) (by assumption) ?_ ?_
    rotate_left 1
    · (intro wI hSI; (try dsimp only at hSI); go_simp; (try with_reducible rfl))
    simp only [Act.put, List.setIfInBounds_toArray, List.set_cons_zero, List.set_cons_succ]
    refine rtake (i := 16) (d := (some 26)) (v := ?_) rfl (by kernel_rfl) (by kernel_rfl) (by kernel_rfl) (by kernel_rfl) (fun _ _ _ h => h) (by kernel_rfl) (by assumption) ?_ ?_
    rotate_left 1
    · (intro wI hSI; (try dsimp only at hSI); go_simp; (try with_reducible rfl))
    simp only [Act.put, List.setIfInBounds_toArray, List.set_cons_zero, List.set_cons_succ]
    refine rtake (i := 17) (d := (some 27)) (v := ?_) rfl (by kernel_rfl) (by kernel_rfl) (by kernel_rfl) (by kernel_rfl) (fun _ _ _ h => h) (by kernel_rfl) (by assumption) ?_ ?_
    rotate_left 1
    · (intro wI hSI; (try dsimp only at hSI); go_simp; (try with_reducible rfl))
    simp only [Act.put, List.setIfInBounds_toArray, List.set_cons_zero, List.set_cons_succ]
    refine rtake (i := 18) (d := (some 28)) (v := ?_) rfl (by kernel_rfl) (by kernel_rfl) (by kernel_rfl) (by kernel_rfl) (fun _ _ _ h => h) (by kernel_rfl) (by assumption) ?_ ?_
    rotate_left 1
    · (intro wI hSI; (try dsimp only at hSI); go_simp; (try with_reducible rfl))
    simp only [Act.put, List.setIfInBounds_toArray, List.set_cons_zero, List.set_cons_succ]
    refine rtake (i := 19) (d := (some 29)) (v := ?_) rfl (by kernel_rfl) (by kernel_rfl) (by kernel_rfl) (by kernel_rfl) (fun _ _ _ h => h) (by kernel_rfl) (by assumption) ?_ ?_
    rotate_left 1
    · (intro wI hSI; (try dsimp only at hSI); go_simp; (try with_reducible rfl))
    simp only [Act.put, List.setIfInBounds_toArray, List.set_cons_zero, List.set_cons_succ]
    refine rtake (i := 20) (d := (some 30)) (v := ?_) rfl (by kernel_rfl) (by kernel_rfl) (by kernel_rfl) (by kernel_rfl) (fun _ _ _ h => h) (by kernel_rfl) (by assumption) ?_ ?_
    rotate_left 1
    · (intro wI hSI; (try dsimp only at hSI); go_simp; (try with_reducible rfl))
    simp only [Act.put, List.setIfInBounds_toArray, List.set_cons_zero, List.set_cons_succ]
    refine rtake (i := 21) (d := (some 31)) (v := ?_) rfl (by kernel_rfl) (by kernel_rfl) (by kernel_rfl) (by kernel_rfl) (fun _ _ _ h => h) (by kernel_rfl) (by assumption) ?_ ?_
    rotate_left 1
    · (intro wI hSI; (try dsimp only at hSI); go_simp; (try with_reducible rfl))
    simp only [Act.put, List.setIfInBounds_toArray, List.set_cons_zero, List.set_cons_succ]
    refine rtake (i := 22) (d := (some 32)) (v := ?_) rfl (by kernel_rfl) (by kernel_rfl) (by kernel_rfl) (by kernel_rfl) (fun _ _ _ h => h) (by kernel_rfl) (by assumption) ?_ ?_
    rotate_left 1
    · (intro wI hSI; (try dsimp only at hSI); go_simp; (try with_reducible rfl))
    simp only [Act.put, List.setIfInBounds_toArray, List.set_cons_zero, List.set_cons_succ]
    refine rtake (i := 23) (d := (some 33)) (v := ?_) rfl (by kernel_rfl) (by kernel_rfl) (by kernel_rfl) (by kernel_rfl) (fun _ _ _ h => h) (by kernel_rfl) (by assumption) ?_ ?_
    rotate_left 1
    · (intro wI hSI; (try dsimp only at hSI); go_simp; (try with_reducible rfl))
    simp only [Act.put, List.setIfInBounds_toArray, List.set_cons_zero, List.set_cons_succ]
    refine rtake (i := 24) (d := (some 34)) (v := ?_) rfl (by kernel_rfl) (by kernel_rfl) (by kernel_rfl) (by kernel_rfl) (fun _ _ _ h => h) (by kernel_rfl) (by assumption) ?_ ?_
    rotate_left 1
    · (intro wI hSI; (try dsimp only at hSI); go_simp; (try with_reducible rfl))
    simp only [Act.put, List.setIfInBounds_toArray, List.set_cons_zero, List.set_cons_succ]
    refine rtake (i := 25) (d := (some 35)) (v := ?_) rfl (by kernel_rfl) (by kernel_rfl) (by kernel_rfl) (by kernel_rfl) (fun _ _ _ h => h) (by kernel_rfl) (by assumption) ?_ ?_
    rotate_left 1
    · (intro wI hSI; (try dsimp only at hSI); go_simp; (try with_reducible rfl))
    simp only [Act.put, List.setIfInBounds_toArray, List.set_cons_zero, List.set_cons_succ]
    refine rtake (i := 26) (d := (some 36)) (v := ?_) rfl (by kernel_rfl) (by kernel_rfl) (by kernel_rfl) (by kernel_rfl) (fun _ _ _ h => h) (by kernel_rfl) (by assumption) ?_ ?_
    rotate_left 1
    · (intro wI hSI; (try dsimp only at hSI); go_simp; (try with_reducible rfl))
    simp only [Act.put, List.setIfInBounds_toArray, List.set_cons_zero, List.set_cons_succ]
    refine rtake (i := 27) (d := (some 37)) (v := ?_) rfl (by kernel_rfl) (by kernel_rfl) (by kernel_rfl) (by kernel_rfl) (fun _ _ _ h => h) (by kernel_rfl) (by assumption) ?_ ?_
    rotate_left 1
    · (intro wI hSI; (try dsimp only at hSI); go_simp; (try with_reducible rfl))
    simp only [Act.put, List.setIfInBounds_toArray, List.set_cons_zero, List.set_cons_succ]
    refine rtake (i := 28) (d := (some 38)) (v := ?_) rfl (by kernel_rfl) (by kernel_rfl) (by kernel_rfl) (by kernel_rfl) (fun _ _ _ h => h) (by kernel_rfl) (by assumption) ?_ ?_
    rotate_left 1
    · (intro wI hSI; (try dsimp only at hSI); go_simp; (try with_reducible rfl))
    simp only [Act.put, List.setIfInBounds_toArray, List.set_cons_zero, List.set_cons_succ]
    refine rtake (i := 29) (d := (some 39)) (v := ?_) rfl (by kernel_rfl) (by kernel_rfl) (by kernel_rfl) (by kernel_rfl) (fun _ _ _ h => h) (by kernel_rfl) (by assumption) ?_ ?_
    rotate_left 1
    · (intro wI hSI; (try dsimp only at hSI); go_simp; (try with_reducible rfl))
    simp only [Act.put, List.setIfInBounds_toArray, List.set_cons_zero, List.set_cons_succ]
    refine rtake (i := 30) (d := (some 40)) (v := ?_) rfl (by kernel_rfl) (by kernel_rfl) (by kernel_rfl) (by kernel_rfl) (fun _ _ _ h => h) (by kernel_rfl) (by assumption) ?_ ?_
    rotate_left 1
    · (intro wI hSI; (try dsimp only at hSI); go_simp; (try with_reducible rfl))
    simp only [Act.put, List.setIfInBounds_toArray, List.set_cons_zero, List.set_cons_succ]
    refine rtake (i := 31) (d := (some 41)) (v := ?_) rfl (by kernel_rfl) (by kernel_rfl) (by kernel_rfl) (by kernel_rfl) (fun _ _ _ h => h) (by kernel_rfl) (by assumption) ?_ ?_
    rotate_left 1
    · (intro wI hSI; (try dsimp only at hSI); go_simp; (try with_reducible rfl))
    simp only [Act.put, List.setIfInBounds_toArray, List.set_cons_zero, List.set_cons_succ]
    refine rtake (i := 32) (d := (some 42)) (v := ?_) rfl (by kernel_rfl) (by kernel_rfl) (by kernel_rfl) (by kernel_rfl) (fun _ _ _ h => h) (by kernel_rfl) (by assumption) ?_ ?_
    rotate_left 1
    · (intro wI hSI; (try dsimp only at hSI); go_simp; (try with_reducible rfl))
    simp only [Act.put, List.setIfInBounds_toArray, List.set_cons_zero, List.set_cons_succ]
    refine rtake (i := 33) (d := (some 43)) (v := ?_) rfl (by kernel_rfl) (by kernel_rfl) (by kernel_rfl) (by kernel_rfl) (fun _ _ _ h => h) (by kernel_rfl) (by assumption) ?_ ?_
    rotate_left 1
    · (intro wI hSI; (try dsimp only at hSI); go_simp; (try with_reducible rfl))
    simp only [Act.put, List.setIfInBounds_toArray, List.set_cons_zero, List.set_cons_succ]
    refine rtake (i := 34) (d := (some 44)) (v := ?_) rfl (by kernel_rfl) (by kernel_rfl) (by kernel_rfl) (by kernel_rfl) (fun _ _ _ h => h) (by kernel_rfl) (by assumption) ?_ ?_
    rotate_left 1
    · (intro wI hSI; (try dsimp only at hSI); go_simp; (try with_reducible rfl))
    simp only [Act.put, List.setIfInBounds_toArray, List.set_cons_zero, List.set_cons_succ]
    refine rtake (i := 35) (d := (some 45)) (v := ?_) rfl (by kernel_rfl) (by kernel_rfl) (by kernel_rfl) (by kernel_rfl) (fun _ _ _ h => h) (by kernel_rfl) (by assumption) ?_ ?_
    rotate_left 1
    · (intro wI hSI; (try dsimp only at hSI); go_simp; (try with_reducible rfl))
    simp only [Act.put, List.setIfInBounds_toArray, List.set_cons_zero, List.set_cons_succ]
    refine rtake (i := 36) (d := (some 46)) (v := ?_) rfl (by kernel_rfl) (by kernel_rfl) (by kernel_rfl) (by kernel_rfl) (fun _ _ _ h => h) (by kernel_rfl) (by assumption) ?_ ?_
    rotate_left 1
    · (intro wI hSI; (try dsimp only at hSI); go_simp; (try with_reducible rfl))
    simp only [Act.put, List.setIfInBounds_toArray, List.set_cons_zero, List.set_cons_succ]
    refine rtake (i := 37) (d := (some 47)) (v := ?_) rfl (by kernel_rfl) (by kernel_rfl) (by kernel_rfl) (by kernel_rfl) (fun _ _ _ h => h) (by kernel_rfl) (by assumption) ?_ ?_
    rotate_left 1
    · (intro wI hSI; (try dsimp only at hSI); go_simp; (try with_reducible rfl))
    simp only [Act.put, List.setIfInBounds_toArray, List.set_cons_zero, List.set_cons_succ]
    refine rskip (i := 38) (d := (some 48)) rfl (by kernel_rfl) (by kernel_rfl) (by kernel_rfl) (by kernel_rfl) (fun _ _ _ h => h) (by kernel_rfl) (by assumption) ?_
    simp only [Act.put, List.setIfInBounds_toArray, List.set_cons_zero, List.set_cons_succ]
    refine rskip (i := 39) (d := (some 49)) rfl (by kernel_rfl) (by kernel_rfl) (by kernel_rfl) (by kernel_rfl) (fun _ _ _ h => h) (by kernel_rfl) (by assumption) ?_
    simp only [Act.put, List.setIfInBounds_toArray, List.set_cons_zero, List.set_cons_succ]
    refine rskip (i := 40) (d := (some 50)) rfl (by kernel_rfl) (by kernel_rfl) (by kernel_rfl) (by kernel_rfl) (fun _ _ _ h => h) (by kernel_rfl) (by assumption) ?_
    simp only [Act.put, List.setIfInBounds_toArray, List.set_cons_zero, List.set_cons_succ]
    refine rskip (i := 41) (d := (some 51)) rfl (by kernel_rfl) (by kernel_rfl) (by kernel_rfl) (by kernel_rfl) (fun _ _ _ h => h) (by kernel_rfl) (by assumption) ?_
    simp only [Act.put, List.setIfInBounds_toArray, List.set_cons_zero, List.set_cons_succ]
    refine rskip (i := 42) (d := (some 52)) rfl (by kernel_rfl) (by kernel_rfl) (by kernel_rfl) (by kernel_rfl) (fun _ _ _ h => h) (by kernel_rfl) (by assumption) ?_
    simp only [Act.put, List.setIfInBounds_toArray, List.set_cons_zero, List.set_cons_succ]
    refine rskip (i := 43) (d := (some 53)) rfl (by kernel_rfl) (by kernel_rfl) (by kernel_rfl) (by kernel_rfl) (fun _ _ _ h => h) (by kernel_rfl) (by assumption) ?_
    simp only [Act.put, List.setIfInBounds_toArray, List.set_cons_zero, List.set_cons_succ]
    refine rskip (i := 44) (d := (some 54)) rfl (by kernel_rfl) (by kernel_rfl) (by kernel_rfl) (by kernel_rfl) (fun _ _ _ h => h) (by kernel_rfl) (by assumption) ?_
    simp only [Act.put, List.setIfInBounds_toArray, List.set_cons_zero, List.set_cons_succ]
    refine rskip (i := 45) (d := (some 55)) rfl (by kernel_rfl) (by kernel_rfl) (by kernel_rfl) (by kernel_rfl) (fun _ _ _ h => h) (by kernel_rfl) (by assumption) ?_
    simp only [Act.put, List.setIfInBounds_toArray, List.set_cons_zero, List.set_cons_succ]
    refine rskip (i := 46) (d := (some 56)) rfl (by kernel_rfl) (by kernel_rfl) (by kernel_rfl) (by kernel_rfl) (fun _ _ _ h => h) (by kernel_rfl) (by assumption) ?_
    simp only [Act.put, List.setIfInBounds_toArray, List.set_cons_zero, List.set_cons_succ]
    refine rskip (i := 47) (d := (some 57)) rfl (by kernel_rfl) (by kernel_rfl) (by kernel_rfl) (by kernel_rfl) (fun _ _ _ h => h) (by kernel_rfl) (by assumption) ?_
    simp only [Act.put, List.setIfInBounds_toArray, List.set_cons_zero, List.set_cons_succ]
    refine rcall (i := 48) (d := (some 58)) (by kernel_rfl) rfl (by kernel_rfl) (fun K hK => ?_)
    rw [if_neg (by rw [show Region.wanted _ _ = false by kernel_rfl]; decide)]
    refine hK.out _ _ ?hS (fun hHeld => ?_)
    case hS => exact hHeld
    clear hK K
    simp only [Act.put, List.setIfInBounds_toArray, List.set_cons_zero, List.set_cons_succ]
    refine rtake (i := 49) (d := (some 59)) (v := ?_) rfl (by kernel_rfl) (by kernel_rfl) (by kernel_rfl) (by kernel_rfl) (fun _ _ _ h => h) (by kernel_rfl) (by assumption) ?_ ?_
    rotate_left 1
    · (intro wI hSI; (try dsimp only at hSI); go_simp; (try with_reducible rfl))
    simp only [Act.put, List.setIfInBounds_toArray, List.set_cons_zero, List.set_cons_succ]
    refine rtake (i := 50) (d := (some 6)) (v := ?_) rfl (by kernel_rfl) (by kernel_rfl) (by kernel_rfl) (by kernel_rfl) (fun _ _ _ h => h) (by kernel_rfl) (by assumption) ?_ ?_
    rotate_left 1
    · (intro wI hSI; (try dsimp only at hSI); go_simp; (try with_reducible rfl))
    simp only [Act.put, List.setIfInBounds_toArray, List.set_cons_zero, List.set_cons_succ]
    refine wpAnyH_done (by kernel_rfl) ?_ _
    have hb1 := hHeld.2
    clear hB_l hB_0 hB_1 hB_2 hB_3 hB_4
    clear hD_l hD_0 hD_1 hD_2 hD_3 hD_4
    clear hHeld
    have hB1 := hB.below hb1
    have hO1 := hO.below hb1
    clear hB hD hO hP hsa hsb hs hs2 hb0
    go_wp2_with fail
    go_ret2
    first | exact ⟨_, rfl, ⟨hB1, hO1, hbs⟩, Moves.of_below hb1⟩ | exact ⟨rfl, _, ⟨hB1, hO1, hbs⟩, Moves.of_below hb1⟩
end Go.Proofs.YtifflpilnpcmoaaGreatDoor

/-! The program's Box: Join. -/
namespace Go.Proofs.YtifflpilnpcmoaaGreatDoor
open Go.RowKit
set_option linter.unusedVariables false
set_option linter.unusedSimpArgs false

/-- append(s, ys...) in a region that draws its order. -/
theorem step_append_lieAll {α : Type} [Cel α] {w : World} {base : Nat} {P : Program} {ops : Array Oper} {o : Oper} {a : Act} {K : Act → World → Prop} {Q : Exit → Act → World → Prop} {E' : Prop} (hgd : o.guard = none) (s x : Operand) (t : TypeId)
    (ho : o.op = .call { callee := .builtin .append, args := #[s, x], argTypes := #[t, t] }) (E bytes : Nat) (z : Value) (ht : P.underlying t = some (.slice E))
    (hE : (P.info? E).map (fun i => (i.zero, i.size, i.bytes)) = some (some z, Cel.k α, bytes)) (hzs : z.cells.size = Cel.k α)
    (v : Value) (l : List α) (hs : a.eval s = v) (hown : Own base E w v l) (ys : List α) (ad : Option Addr) (c : Nat) (hx : a.eval x = .slice ad ys.length c)
    (hsa : SA w ad ys) (hlen : (l.length + ys.length) * bytes ≤ 140737488355328) (hmax : l.length + ys.length ≤ 1000000000000) (hbase : base ≤ w.heap.size)
    (h : ∀ a' cap w', Own base E w' (.slice a' (l.length + ys.length) cap) (l ++ ys) → w.grownBy w' v.ownBlock → K (a.put o.dst (.slice a' (l.length + ys.length) cap)) w') :
    if Region.wanted o (yielded ops a.tmps) = true then Oper.wp P o a w K Q else E' := by
  obtain ⟨i0, hi, hz0, hz1, hz2⟩ := info_parts hE
  by_cases hne : ys = []
  · subst hne
    obtain ⟨a', cap, rfl, -⟩ := hown.form
    have hw : Region.wanted o (yielded ops a.tmps) = true := by simp [Region.wanted, hgd]
    have hrun := run_append_zero (P := P) (w := w) base t o.type E i0 (Cel.k α) ht hi _ _ _ hown ad c
    rw [if_pos hw]
    unfold Oper.wp
    simp [execOp, ho, resolve, invoke, builtin, hs, hx, hrun, Result.andThen]
    exact h a' cap w (by rw [List.append_nil]; exact hown) ⟨rfl, rfl, rfl, Nat.le_refl _, fun _ _ _ => rfl⟩
  · rcases hsa with rfl | ⟨b, off, rfl, hsa⟩
    · exact absurd rfl hne
    refine step_append_lies w hgd s x t ho base E i0 z (Cel.k α) bytes ht hi hz0 hz1 hz2 hzs Cel.pos v l.length (l.flatMap Cel.cells) hs hown ⟨b, off, none⟩ ys.length c (ys.flatMap Cel.cells) hx (flatLen ys) hsa.news (flatOne ys) (List.length_pos_iff.2 hne) (by unfold maxLen; omega) hlen hbase w.heap.size rfl ?_
    intro g cap w' h1 h2 h3 _
    refine h _ cap w' ?_ h2
    unfold Own
    rw [List.length_append, List.flatMap_append]
    exact h1
set_option maxRecDepth 100000 in
set_option maxHeartbeats 16000000 in
theorem joinP_any {base b b2 : Nat} {o a f f1 : Int} {s : List Skill} {a3 a4 : Option Addr} {c3 c4 : Nat} {v v2 : Value} {l m : List Arv} (w : World) (h : BoxAt 97 base b o a f a3 s.length c3 v l w) (h2 : BoxAt 97 base b2 o a f1 a4 s.length c4 v2 m w) (hs : SA w a3 s) (hs2 : SA w a4 s) (hsl : s.length ≤ 1000000) (hl : l.length ≤ 1000) (hm : m.length ≤ 500) (hrl : RiseA l) (hrm : RiseA m) (hbase : base ≤ w.heap.size) :
    Calls Tryz.prog 28 #[.pointer (some ⟨b, 0, none⟩), .pointer (some ⟨b2, 0, none⟩)] w (fun e w' => ∃ v', e = .returned (.tuple #[.int .i64 (joinN f f1 l m), .int .i64 (joinE f f1)]) ∧ BoxAt 97 base b o a f a3 s.length c3 v' (joinL f f1 l m) w' ∧ Moves b v v' w w') := by
  obtain ⟨hB, hO, hbs⟩ := h
  obtain ⟨hD, hP, hds⟩ := h2
  obtain ⟨la, cap, rfl, hsa, hlf, hcap⟩ := hO.form
  obtain ⟨lb, cap2, rfl, hsb, -, -⟩ := hP.form
  have HEq := Lib.hid (fun W (h : SA W a3 s) (h2 : SA W a4 s) => equalRea_any s a3 a4 c3 c4 W h h2 (by omega))
  have HCl := Lib.hid (fun W (h : SA W la l) => cloneArr_any l la cap W h (by rcases hlf with h | ⟨g, h, -⟩; exact .inl h; exact .inr ⟨g, 0, h⟩) (by omega))
  have HSo := Lib.hid (fun W v base (h : Own base 63 W v (l ++ m)) => sortArr_any base (l ++ m) v W 59 (enters_of Tryz.func59 (by kernel_rfl) rfl) (fun x y W => compareA_any x y W) h (by rw [List.length_append]; omega))
  have HCo := Lib.hid (fun W v base (h : Own base 63 W v (sortC cmpA (l ++ m))) => compactArr_any base (sortC cmpA (l ++ m)) v W h (by rw [sortC_len totC_A, List.length_append]; omega))
  rw [join_same hrl hrm] at HCo
  have Hjl := joinA_len l m
  have Hfl := freshA_len l m
  have hb0 := Below.refl w.heap.size w
  generalize sortC cmpA (l ++ m) = sl at *
  go_enter Tryz.func28, Tryz.ntmps28
  go_upto_region 1 with (fail)
  go_cut [6, 7] from 10 to 17 (fun u6 u7 wx => ∃ (p q : Nat) (W' : World), u6 = .pointer (some ⟨p, 0, none⟩) ∧ u7 = .pointer (some ⟨q, 0, none⟩) ∧ W' = wx ∧ Box W' p 28 #[.int .i64 o, .int .i64 a, .int .i64 f, .slice a3 s.length c3] ∧ Box W' q 28 #[.int .i64 o, .int .i64 a, .int .i64 f1, .slice a4 s.length c4] ∧ Below w.heap.size w W')
  case first =>
    have hB_l := hB.lt; have hB_0 := hB.cell 0; have hB_1 := hB.cell 1; have hB_2 := hB.cell 2; have hB_3 := hB.cell 3; have hB_4 := hB.cell 4; simp at hB_0 hB_1 hB_2 hB_3 hB_4
    have hD_l := hD.lt; have hD_0 := hD.cell 0; have hD_1 := hD.cell 1; have hD_2 := hD.cell 2; have hD_3 := hD.cell 3; have hD_4 := hD.cell 4; simp at hD_0 hD_1 hD_2 hD_3 hD_4
    go_region
    · go_wp2_with fail
      go_meet
      exact ⟨w.heap.size, w.heap.size + 1, _, rfl, rfl, rfl, ((Box.new w 28 #[.int .i64 o, .int .i64 a, .int .i64 f, .slice a3 s.length c3]).alloc _).drew, (Box.newAt _ _ _ _ (by simp)).drew, ((hb0.alloc (Nat.le_refl _) _).alloc (by simp) _).drew⟩
    · go_wp2_with fail
      go_meet
      exact ⟨w.heap.size + 1, w.heap.size, _, rfl, rfl, rfl, (Box.newAt _ _ _ _ (by simp)).drew, ((Box.new w 28 #[.int .i64 o, .int .i64 a, .int .i64 f1, .slice a4 s.length c4]).alloc _).drew, ((hb0.alloc (Nat.le_refl _) _).alloc (by simp) _).drew⟩
  case rest =>
    obtain ⟨p, q, W1, rfl, rfl, hW1, hP1, hQ1, hb1⟩ := hcut
    subst hW1
    by_cases hf : f = f1
    · subst hf
      have HJE : Hid (joinE f f = 0) := if_pos rfl
      have HJN : Hid (joinN f f l m = ((freshA l m).length : Nat)) := if_pos rfl
      have HJL : Hid (joinL f f l m = joinA l m) := if_pos rfl
      have hP1_l := hP1.lt; have hP1_0 := hP1.cell 0; have hP1_1 := hP1.cell 1; have hP1_2 := hP1.cell 2; have hP1_3 := hP1.cell 3; simp at hP1_0 hP1_1 hP1_2 hP1_3
      have hQ1_l := hQ1.lt; have hQ1_0 := hQ1.cell 0; have hQ1_1 := hQ1.cell 1; have hQ1_2 := hQ1.cell 2; have hQ1_3 := hQ1.cell 3; simp at hQ1_0 hQ1_1 hQ1_2 hQ1_3
      go_wp2_with fail
      refine (HEq.out _ (hs.below hb1) (hs2.below hb1)).mono ?_
      rintro e w2 ⟨rfl, k2, rfl⟩
      have hb2 := below_drewN hb1 k2
      clear hP1_l hP1_0 hP1_1 hP1_2 hP1_3
      clear hQ1_l hQ1_0 hQ1_1 hQ1_2 hQ1_3
      clear hP1 hQ1 hb1 HEq hs hs2
      generalize World.drewN W1 k2 = W2 at *
      have hB2 := hB.below hb2
      have hD2 := hD.below hb2
      have hO2 := hO.below hb2
      have hsa2 := hsa.below hb2
      have hsb2 := hsb.below hb2
      have HS0 : Hid (∀ wx, Below W2.heap.size W2 wx → (wx.cell? ⟨b, 4, none⟩ = some (.slice la l.length cap) ∧ wx.cell? ⟨b2, 4, none⟩ = some (.slice lb m.length cap2))) := fun wx h => ⟨(hB2.below h).cell 4, (hD2.below h).cell 4⟩
      have Hol := Lib.hid hO.lt
      have hz2 := hb2.size
      clear hB hD hO hP hsa hsb hb0 hD2 hO2
      go_upto_region 4 with (fail)
      refine wp_region_held_drew (S := (fun wx => (wx.cell? ⟨b, 4, none⟩ = some (.slice la l.length cap) ∧ wx.cell? ⟨b2, 4, none⟩ = some (.slice lb m.length cap2)) ∧ Below W2.heap.size W2 wx)) (by kernel_rfl) ?hS (fun hHeld => ?_)
      case hS => exact ⟨HS0.out _ (Below.refl _ _).drew, (Below.refl _ _).drew⟩
      refine rtake (i := 0) (d := (some 45)) (v := ?_) rfl (by kernel_rfl) (by kernel_rfl) (by kernel_rfl) (by kernel_rfl) (fun _ _ _ h => h) (by kernel_rfl) (by assumption) ?_ ?_
      rotate_left 1
      · (intro wI hSI; (try dsimp only at hSI); go_simp; (try with_reducible rfl))
      simp only [Act.put, List.setIfInBounds_toArray, List.set_cons_zero, List.set_cons_succ]
      refine rtake (i := 1) (d := (some 46)) (v := ?_) rfl (by kernel_rfl) (by kernel_rfl) (by kernel_rfl) (by kernel_rfl) (fun _ _ _ h => h) (by kernel_rfl) (by assumption) ?_ ?_
      rotate_left 1
      · (intro wI hSI; (try dsimp only at hSI); go_simp; (try with_reducible rfl))
      simp only [Act.put, List.setIfInBounds_toArray, List.set_cons_zero, List.set_cons_succ]
      refine rtake (i := 2) (d := (some 47)) (v := ?_) rfl (by kernel_rfl) (by kernel_rfl) (by kernel_rfl) (by kernel_rfl) (fun _ _ _ h => h) (by kernel_rfl) (by assumption) ?_ ?_
      rotate_left 1
      · (intro wI hSI; (try dsimp only at hSI); go_simp; (try with_reducible rfl))
      simp only [Act.put, List.setIfInBounds_toArray, List.set_cons_zero, List.set_cons_succ]
      refine rtake (i := 3) (d := (some 48)) (v := ?_) rfl (by kernel_rfl) (by kernel_rfl) (by kernel_rfl) (by kernel_rfl) (fun _ _ _ h => h) (by kernel_rfl) (by assumption) ?_ ?_
      rotate_left 1
      · (intro wI hSI; (try dsimp only at hSI); go_simp; (try with_reducible rfl))
      simp only [Act.put, List.setIfInBounds_toArray, List.set_cons_zero, List.set_cons_succ]
      refine rtake (i := 5) (d := (some 50)) (v := ?_) rfl (by kernel_rfl) (by kernel_rfl) (by kernel_rfl) (by kernel_rfl) (fun _ _ _ h => h) (by kernel_rfl) (by assumption) ?_ ?_
      rotate_left 1
      · (intro wI hSI; (try dsimp only at hSI); go_simp; (try with_reducible rfl))
      simp only [Act.put, List.setIfInBounds_toArray, List.set_cons_zero, List.set_cons_succ]
      refine rtake (i := 6) (d := (some 51)) (v := ?_) rfl (by kernel_rfl) (by kernel_rfl) (by kernel_rfl) (by kernel_rfl) (fun _ _ _ h => h) (by kernel_rfl) (by assumption) ?_ ?_
      rotate_left 1
      · (intro wI hSI; (try dsimp only at hSI); go_simp; (try with_reducible rfl))
      simp only [Act.put, List.setIfInBounds_toArray, List.set_cons_zero, List.set_cons_succ]
      refine rtake (i := 7) (d := (some 52)) (v := ?_) rfl (by kernel_rfl) (by kernel_rfl) (by kernel_rfl) (by kernel_rfl) (fun _ _ _ h => h) (by kernel_rfl) (by assumption) ?_ ?_
      rotate_left 1
      · (intro wI hSI; (try dsimp only at hSI); go_simp; (try with_reducible rfl))
      simp only [Act.put, List.setIfInBounds_toArray, List.set_cons_zero, List.set_cons_succ]
      refine rtake (i := 8) (d := (some 53)) (v := ?_) rfl (by kernel_rfl) (by kernel_rfl) (by kernel_rfl) (by kernel_rfl) (fun _ _ _ h => h) (by kernel_rfl) (by assumption) ?_ ?_
      rotate_left 1
      · (intro wI hSI; (try dsimp only at hSI); go_simp; (try with_reducible rfl))
      simp only [Act.put, List.setIfInBounds_toArray, List.set_cons_zero, List.set_cons_succ]
      refine rcall (i := 4) (d := (some 49)) (by kernel_rfl) rfl (by kernel_rfl) (fun K hK => ?_)
      go_simp
      go_at_call 57; refine (HCl.out _ (hsa2.below hHeld.2)).mono ?_; rintro e w3 ⟨v3, rfl, hown3, hb3⟩; have hbz3 := hHeld.2.size; obtain ⟨q3, k3, rfl, -, -, -⟩ := hown3.form
      refine hK.out _ _ ?hS (fun hHeld => ?_)
      case hS => exact ⟨HS0.out _ (below_next hHeld.2 hb3), below_next hHeld.2 hb3⟩
      clear hK K
      simp only [Act.put, List.setIfInBounds_toArray, List.set_cons_zero, List.set_cons_succ]
      have hown4 := hown3.mono hbz3
      refine rcall (i := 9) (d := (some 54)) (by kernel_rfl) rfl (by kernel_rfl) (fun K hK => ?_)
      refine step_append_lieAll (α := Arv) (by rfl) _ _ 30 (by rfl) 63 64 (.agg #[.string ⟨#[]⟩, .int .i64 0, .int .i64 0, .string ⟨#[]⟩, .string ⟨#[]⟩]) Tryz.underlying30 infoArr (by rfl) _ l (by rfl) hown4 m lb cap2 (by rfl) (hsb2.below hHeld.2) (by omega) (by omega) hHeld.2.size ?_; intro q9 k9 w9 hown9 hg9; have hb9 := hHeld.2.grown hg9 hHeld.2.size (fun j hj => (hown4.lt j hj).1)
      refine hK.out _ _ ?hS (fun hHeld => ?_)
      case hS => exact ⟨HS0.out _ hb9, hb9⟩
      clear hK K
      simp only [Act.put, List.setIfInBounds_toArray, List.set_cons_zero, List.set_cons_succ]
      refine rtake (i := 10) (d := (some 8)) (v := ?_) rfl (by kernel_rfl) (by kernel_rfl) (by kernel_rfl) (by kernel_rfl) (fun _ _ _ h => h) (by kernel_rfl) (by assumption) ?_ ?_
      rotate_left 1
      · (intro wI hSI; (try dsimp only at hSI); go_simp; (try with_reducible rfl))
      simp only [Act.put, List.setIfInBounds_toArray, List.set_cons_zero, List.set_cons_succ]
      refine wpAnyH_done (by kernel_rfl) ?_ _
      clear hHeld hown3 hown4 hg9 hsa2 hsb2
      go_wp2_with fail
      refine (HSo.out _ _ _ hown9).mono ?_
      rintro e w5 ⟨rfl, hown5, hk5⟩
      have hb5 := belowKp hb9 hk5 (fun j hj => (hown9.lt j hj).1) hb9.size
      go_wp2_with fail
      refine (HCo.out _ _ _ hown5).mono ?_
      rintro e w6 ⟨q6, k6, rfl, -, hk6, -, hown6⟩
      have hb6 := belowKp hb5 hk6 (fun j hj => (hown5.lt j hj).1) hb5.size
      have hB6 := hB2.below hb6
      have hbw6 := below_next hb2 hb6
      clear hown9 hown5 hk5 hk6 hb5 hb9 hb6 HSo HCo HCl HS0
      have HJN2 : Hid (joinN f f l m = ((freshA l m).length : Nat)) := HJN
      generalize joinA l m = jl at *
      have hd : decide ((2000 : Int) < (jl.length : Int)) = false := decide_eq_false (by omega)
      have hww : IntKind.i64.wrap ((jl.length : Int) - (l.length : Int)) = ((freshA l m).length : Int) := by rw [IntWalk.i64_in _ (by omega)]; omega
      have hne6 : ∀ j, (Value.slice q6 jl.length k6).ownBlock = some j → ¬ (j = b) := fun j hj e => by have := (hown6.lt j hj).1; omega
      have hk7 := (Kp.refl (fun j => j = b) w6).setCell (p := ⟨b, 4, none⟩) (.inl rfl) (.slice q6 jl.length k6)
      have hown7 := (hown6.kp hk7 hne6).mono (Nat.le_trans hbase hz2)
      have hbx7 : Box (w6.setCell ⟨b, 4, none⟩ (.slice q6 jl.length k6)) b 97 #[.int .i64 o, .int .i64 a, .int .i64 f, .slice a3 s.length c3, .slice q6 jl.length k6] := by simpa using hB6.set 4 (.slice q6 jl.length k6)
      have HFIN : Hid (BoxAt 97 base b o a f a3 s.length c3 (.slice q6 jl.length k6) jl (w6.setCell ⟨b, 4, none⟩ (.slice q6 jl.length k6)) ∧ Moves b (.slice la l.length cap) (.slice q6 jl.length k6) w (w6.setCell ⟨b, 4, none⟩ (.slice q6 jl.length k6))) :=
        ⟨⟨hbx7, hown7, hbs⟩, ⟨(Kp.of_below hbw6).trans (hk7.mono (fun k hk => .inl (.inl hk))), fun j hj => .inr (Nat.le_trans hz2 (hown6.lt j hj).1)⟩⟩
      have hc6 := hB6.cell 4
      have hf6 := hB6.frozen 4
      simp at hc6
      clear hbx7 hown7 hk7 hne6 hown6 hB2 hbw6 Hol Hjl Hfl
      have hB6_l := hB6.lt; have hB6_0 := hB6.cell 0; have hB6_1 := hB6.cell 1; have hB6_2 := hB6.cell 2; have hB6_3 := hB6.cell 3; have hB6_4 := hB6.cell 4; simp at hB6_0 hB6_1 hB6_2 hB6_3 hB6_4
      go_wp2_with fail
      go_ret2
      first | exact ⟨_, by rw [HJN.out, HJE.out] <;> rfl, by rw [HJL.out]; exact HFIN.out.1, HFIN.out.2⟩ | exact ⟨by rw [HJN.out, HJE.out] <;> rfl, _, by rw [HJL.out]; exact HFIN.out.1, HFIN.out.2⟩
    · have HJE : Hid (joinE f f1 = 13) := if_neg hf
      have HJN : Hid (joinN f f1 l m = 0) := if_neg hf
      have HJL : Hid (joinL f f1 l m = l) := if_neg hf
      have hqf : (f != f1) = true := by simpa using hf
      have hB1 := hB.below hb1
      have hO1 := hO.below hb1
      clear hf hB hD hO hP hsa hsb hs hs2 hb0 HSo HCo HCl HEq Hjl Hfl
      have hP1_l := hP1.lt; have hP1_0 := hP1.cell 0; have hP1_1 := hP1.cell 1; have hP1_2 := hP1.cell 2; have hP1_3 := hP1.cell 3; simp at hP1_0 hP1_1 hP1_2 hP1_3
      have hQ1_l := hQ1.lt; have hQ1_0 := hQ1.cell 0; have hQ1_1 := hQ1.cell 1; have hQ1_2 := hQ1.cell 2; have hQ1_3 := hQ1.cell 3; simp at hQ1_0 hQ1_1 hQ1_2 hQ1_3
      go_wp2_with fail
      go_ret2
      first | exact ⟨_, by rw [HJN.out, HJE.out] <;> rfl, by rw [HJL.out]; exact ⟨hB1, hO1, hbs⟩, Moves.of_below hb1⟩ | exact ⟨by rw [HJN.out, HJE.out] <;> rfl, _, by rw [HJL.out]; exact ⟨hB1, hO1, hbs⟩, Moves.of_below hb1⟩
end Go.Proofs.YtifflpilnpcmoaaGreatDoor

/-! Four boxes side by side: two of the program, two of the reference; what each call on one of them leaves. -/
namespace Go.Proofs.YtifflpilnpcmoaaGreatDoor
open Go.RowKit
set_option linter.unusedVariables false
set_option linter.unusedSimpArgs false

/-- Two slices of one's own lie apart. -/
def Ap (v v' : Value) : Prop := ∀ j, v.ownBlock = some j → v'.ownBlock ≠ some j
theorem Ap.symm {v v' : Value} (h : Ap v v') : Ap v' v := fun j hj hk => h j hk hj
section
variable {T T' base b b' : Nat} {o a f o' a' f' : Int} {a3 a3' : Option Addr} {s3 c3 s3' c3' : Nat} {v vn v' : Value} {l l' : List Arv} {w w' : World}
theorem BoxAt.move (h' : BoxAt T' base b' o' a' f' a3' s3' c3' v' l' w) (h : BoxAt T base b o a f a3 s3 c3 v l w) (hm : Moves b v vn w w') (hb : b ≠ b') (hap : Ap v v') : BoxAt T' base b' o' a' f' a3' s3' c3' v' l' w' := by
  refine h'.kp hm.1 (fun hx => ?_) (fun j hj hx => ?_)
  · rcases hx with e | e
    · exact hb e.symm
    · have := (h.2.1.lt _ e).1; have := h'.2.2; omega
  · rcases hx with e | e
    · have := (h'.2.1.lt _ hj).1; have := h.2.2; omega
    · exact hap j e hj
theorem Ap.move (hap : Ap v v') (h' : BoxAt T' base b' o' a' f' a3' s3' c3' v' l' w) (hm : Moves b v vn w w') : Ap vn v' := fun j hj hk => by
  rcases hm.2 j hj with e | e
  · exact hap j e hk
  · have := (h'.2.1.lt _ hk).2; omega
end
/-- What stays the same in the law's loop. -/
structure BK where
  W0 : World
  S : Nat
  bx : Nat
  bo : Nat
  by_ : Nat
  bp : Nat
  o : Int
  a : Int
  f : Int
  f1 : Int
  s : List Skill
  rx : Option Addr
  ro : Option Addr
  rc : Option Addr
  kx : Nat
  ko : Nat
  kc : Nat
def BK.X (k : BK) (j : Nat) : Prop := j = k.S ∨ j = k.bx ∨ j = k.bo ∨ j = k.by_ ∨ j = k.bp
structure BK.Ok (k : BK) : Prop where
  xo : k.bx ≠ k.bo
  xy : k.bx ≠ k.by_
  xp : k.bx ≠ k.bp
  oy : k.bo ≠ k.by_
  op : k.bo ≠ k.bp
  yp : k.by_ ≠ k.bp
  sx : k.S < k.bx
  so : k.S < k.bo
  sy : k.S < k.by_
  sp : k.S < k.bp
  ss : k.S < k.W0.heap.size
  env : Env k.W0
  rxs : SA k.W0 k.rx k.s
  ros : SA k.W0 k.ro k.s
  rcs : SA k.W0 k.rc k.s
  rxn : ∀ x : Addr, k.rx = some x → ¬ k.X x.block
  ron : ∀ x : Addr, k.ro = some x → ¬ k.X x.block
  rcn : ∀ x : Addr, k.rc = some x → ¬ k.X x.block
  esn : ∀ w', Kp k.X k.W0 w' → Env w'
  hsl : k.s.length ≤ 1000000
  hsm : ∀ x ∈ k.s, x.1.size ≤ 1000
  hbd : ∀ x ∈ k.s, 0 ≤ x.2 ∧ x.2 ≤ 10000000
  ab : 0 ≤ k.a ∧ k.a ≤ 10000000 ∧ 0 ≤ k.f ∧ k.f ≤ 10000000
  cf : callFault k.o k.a k.f k.s = 0
/-- Where the loop stands: the boxes of the program (x, o) and of the reference (y, p) with their lists, the stream. -/
structure Sit (k : BK) (B : Int) (vx vo vy vp : Value) (lx lo ly lp : List Arv) (w : World) : Prop where
  x : BoxAt 97 k.W0.heap.size k.bx k.o k.a k.f k.rx k.s.length k.kx vx lx w
  oo : BoxAt 97 k.W0.heap.size k.bo k.o k.a k.f1 k.ro k.s.length k.ko vo lo w
  y : BoxAt 99 k.W0.heap.size k.by_ k.o k.a k.f k.rc k.s.length k.kc vy ly w
  p : BoxAt 99 k.W0.heap.size k.bp k.o k.a k.f1 k.rc k.s.length k.kc vp lp w
  xo : Ap vx vo
  xy : Ap vx vy
  xp : Ap vx vp
  oy : Ap vo vy
  op : Ap vo vp
  yp : Ap vy vp
  kw : Kp k.X k.W0 w
  st : Strm k.S B w
section
variable {k : BK} {B : Int} {vx vo vy vp : Value} {lx lo ly lp : List Arv} {w w' : World}
theorem Kp.moves {T base b : Nat} {o a f : Int} {a3 : Option Addr} {s3 c3 : Nat} {v vn : Value} {l : List Arv} {X : Nat → Prop} {W0 : World} (hk : Kp X W0 w) (h : BoxAt T base b o a f a3 s3 c3 v l w) (hm : Moves b v vn w w') (hX : X b) (hbase : base = W0.heap.size) : Kp X W0 w' := by
  have h1 := (hk.mono (Y := fun j => X j ∨ v.ownBlock = some j) (fun j hj => .inl (.inl hj))).trans (hm.1.mono (Y := fun j => X j ∨ v.ownBlock = some j) (fun j hj => .inl (hj.elim (fun e => .inl (e ▸ hX)) .inr)))
  exact h1.mono (fun j hj => hj.elim .inl (fun e => .inr (by have := (h.2.1.lt _ e).1; omega)))
theorem Strm.moves {T base b : Nat} {o a f : Int} {a3 : Option Addr} {s3 c3 : Nat} {v vn : Value} {l : List Arv} {S : Nat} (hs : Strm S B w) (h : BoxAt T base b o a f a3 s3 c3 v l w) (hm : Moves b v vn w w') (hb : S < b) : Strm S B w' :=
  hs.kp hm.1 (fun j hj hx => by
    rcases hx with e | e
    · omega
    · have := (h.2.1.lt _ e).1; have := h.2.2; omega)
theorem Sit.mx (h : Sit k B vx vo vy vp lx lo ly lp w) (hk : k.Ok) {vn : Value} {ln : List Arv} (hn : BoxAt 97 k.W0.heap.size k.bx k.o k.a k.f k.rx k.s.length k.kx vn ln w') (hm : Moves k.bx vx vn w w') : Sit k B vn vo vy vp ln lo ly lp w' :=
  ⟨hn, h.oo.move h.x hm hk.xo h.xo, h.y.move h.x hm hk.xy h.xy, h.p.move h.x hm hk.xp h.xp, h.xo.move h.oo hm, h.xy.move h.y hm, h.xp.move h.p hm, h.oy, h.op, h.yp, h.kw.moves h.x hm (.inr (.inl rfl)) rfl, h.st.moves h.x hm hk.sx⟩
theorem Sit.mo (h : Sit k B vx vo vy vp lx lo ly lp w) (hk : k.Ok) {vn : Value} {ln : List Arv} (hn : BoxAt 97 k.W0.heap.size k.bo k.o k.a k.f1 k.ro k.s.length k.ko vn ln w') (hm : Moves k.bo vo vn w w') : Sit k B vx vn vy vp lx ln ly lp w' :=
  ⟨h.x.move h.oo hm (Ne.symm hk.xo) h.xo.symm, hn, h.y.move h.oo hm hk.oy h.oy, h.p.move h.oo hm hk.op h.op, (h.xo.symm.move h.x hm).symm, h.xy, h.xp, h.oy.move h.y hm, h.op.move h.p hm, h.yp, h.kw.moves h.oo hm (.inr (.inr (.inl rfl))) rfl, h.st.moves h.oo hm hk.so⟩
theorem Sit.my (h : Sit k B vx vo vy vp lx lo ly lp w) (hk : k.Ok) {vn : Value} {ln : List Arv} (hn : BoxAt 99 k.W0.heap.size k.by_ k.o k.a k.f k.rc k.s.length k.kc vn ln w') (hm : Moves k.by_ vy vn w w') : Sit k B vx vo vn vp lx lo ln lp w' :=
  ⟨h.x.move h.y hm (Ne.symm hk.xy) h.xy.symm, h.oo.move h.y hm (Ne.symm hk.oy) h.oy.symm, hn, h.p.move h.y hm hk.yp h.yp, h.xo, (h.xy.symm.move h.x hm).symm, h.xp, (h.oy.symm.move h.oo hm).symm, h.op, h.yp.move h.p hm, h.kw.moves h.y hm (.inr (.inr (.inr (.inl rfl)))) rfl, h.st.moves h.y hm hk.sy⟩
theorem Sit.mp (h : Sit k B vx vo vy vp lx lo ly lp w) (hk : k.Ok) {vn : Value} {ln : List Arv} (hn : BoxAt 99 k.W0.heap.size k.bp k.o k.a k.f1 k.rc k.s.length k.kc vn ln w') (hm : Moves k.bp vp vn w w') : Sit k B vx vo vy vn lx lo ly ln w' :=
  ⟨h.x.move h.p hm (Ne.symm hk.xp) h.xp.symm, h.oo.move h.p hm (Ne.symm hk.op) h.op.symm, h.y.move h.p hm (Ne.symm hk.yp) h.yp.symm, hn, h.xo, h.xy, (h.xp.symm.move h.x hm).symm, h.oy, (h.op.symm.move h.oo hm).symm, (h.yp.symm.move h.y hm).symm, h.kw.moves h.p hm (.inr (.inr (.inr (.inr rfl)))) rfl, h.st.moves h.p hm hk.sp⟩
theorem Sit.below (h : Sit k B vx vo vy vp lx lo ly lp w) (hb : Below w.heap.size w w') : Sit k B vx vo vy vp lx lo ly lp w' :=
  ⟨h.x.below hb, h.oo.below hb, h.y.below hb, h.p.below hb, h.xo, h.xy, h.xp, h.oy, h.op, h.yp, h.kw.trans (Kp.of_below hb), h.st.kp (X := fun _ => False) (Kp.of_below hb) (fun _ _ h => h)⟩
theorem Sit.stp (h : Sit k B vx vo vy vp lx lo ly lp w) (hk : k.Ok) {B' : Int} (hb : Stp k.S w w') (hs : Strm k.S B' w') : Sit k B' vx vo vy vp lx lo ly lp w' := by
  have hkp : Kp (fun j => j = k.S) w w' := Kp.of_stp hb rfl
  have own : ∀ {v : Value} {l : List Arv}, Own k.W0.heap.size 63 w v l → ∀ j, v.ownBlock = some j → ¬ (j = k.S) := fun h j hj e => by have := (h.lt j hj).1; have := hk.ss; omega
  have hx := hk.sx; have ho := hk.so; have hy := hk.sy; have hp := hk.sp
  exact ⟨h.x.kp hkp (by omega) (own h.x.2.1), h.oo.kp hkp (by omega) (own h.oo.2.1), h.y.kp hkp (by omega) (own h.y.2.1), h.p.kp hkp (by omega) (own h.p.2.1), h.xo, h.xy, h.xp, h.oy, h.op, h.yp, h.kw.trans (hkp.mono (fun j hj => .inl (.inl hj))), hs⟩
theorem Sit.up (h : Sit k B vx vo vy vp lx lo ly lp w) {B' : Int} (hB : B ≤ B') : Sit k B' vx vo vy vp lx lo ly lp w := { h with st := h.st.mono hB }
theorem Box.moves {T b n : Nat} {v vn : Value} {vs : Array Value} (h : Box w n T vs) (hm : Moves b v vn w w') (hn : b < n ∧ ∀ j, v.ownBlock = some j → j < n) : Box w' n T vs :=
  h.kp hm.1 (fun hx => hx.elim (fun e => by have := hn.1; omega) (fun e => by have := hn.2 n e; omega))
/-- The calls of the loop. -/
theorem Sit.join (h : Sit k B vx vo vy vp lx lo ly lp w) (hk : k.Ok) (h1 : lx.length ≤ 1000) (h2 : lo.length ≤ 500) (r1 : RiseA lx) (r2 : RiseA lo) :
    Calls Tryz.prog 28 #[.pointer (some ⟨k.bx, 0, none⟩), .pointer (some ⟨k.bo, 0, none⟩)] w (fun e w' => ∃ vn, e = .returned (.tuple #[.int .i64 (joinN k.f k.f1 lx lo), .int .i64 (joinE k.f k.f1)]) ∧ Sit k B vn vo vy vp (joinL k.f k.f1 lx lo) lo ly lp w') := by
  refine (joinP_any w h.x h.oo (hk.rxs.kp h.kw (fun x hx _ => hk.rxn x hx)) (hk.ros.kp h.kw (fun x hx _ => hk.ron x hx)) hk.hsl h1 h2 r1 r2 h.kw.size).mono ?_
  rintro e w' ⟨vn, rfl, hn, hm⟩
  exact ⟨vn, rfl, h.mx hk hn hm⟩
theorem Sit.joinR (h : Sit k B vx vo vy vp lx lo ly lp w) (hk : k.Ok) (h1 : ly.length ≤ 1000) (h2 : lp.length ≤ 500) :
    Calls Tryz.prog 29 #[.pointer (some ⟨k.by_, 0, none⟩), .pointer (some ⟨k.bp, 0, none⟩)] w (fun e w' => ∃ vn, e = .returned (.tuple #[.int .i64 (joinN k.f k.f1 ly lp), .int .i64 (joinE k.f k.f1)]) ∧ Sit k B vx vo vn vp lx lo (joinL k.f k.f1 ly lp) lp w') := by
  refine (joinR_any w h.y h.p (hk.rcs.kp h.kw (fun x hx _ => hk.rcn x hx)) (hk.rcs.kp h.kw (fun x hx _ => hk.rcn x hx)) hk.hsl h1 h2 hk.yp h.yp h.kw.size).mono ?_
  rintro e w' ⟨vn, rfl, hn, hm⟩
  exact ⟨vn, rfl, h.my hk hn hm⟩
theorem Sit.putX (h : Sit k B vx vo vy vp lx lo ly lp w) (hk : k.Ok) (x : Arv) (hx : ArvOk x) (h1 : lx.length ≤ 1000) (r1 : RiseA lx) :
    Calls Tryz.prog 30 #[.pointer (some ⟨k.bx, 0, none⟩), encA x] w (fun e w' => ∃ vn, e = .returned (.tuple #[.bool (putB lx x), .int .i64 (aF x)]) ∧ Sit k B vn vo vy vp (putL lx x) lo ly lp w' ∧ Moves k.bx vx vn w w') := by
  refine (putP_any x w h.x (hk.esn _ h.kw) hx r1 h1 h.kw.size).mono ?_
  rintro e w' ⟨vn, rfl, hn, hm⟩
  exact ⟨vn, rfl, h.mx hk hn hm, hm⟩
theorem Sit.putO (h : Sit k B vx vo vy vp lx lo ly lp w) (hk : k.Ok) (x : Arv) (hx : ArvOk x) (h1 : lo.length ≤ 1000) (r1 : RiseA lo) :
    Calls Tryz.prog 30 #[.pointer (some ⟨k.bo, 0, none⟩), encA x] w (fun e w' => ∃ vn, e = .returned (.tuple #[.bool (putB lo x), .int .i64 (aF x)]) ∧ Sit k B vx vn vy vp lx (putL lo x) ly lp w' ∧ Moves k.bo vo vn w w') := by
  refine (putP_any x w h.oo (hk.esn _ h.kw) hx r1 h1 h.kw.size).mono ?_
  rintro e w' ⟨vn, rfl, hn, hm⟩
  exact ⟨vn, rfl, h.mo hk hn hm, hm⟩
theorem Sit.putY (h : Sit k B vx vo vy vp lx lo ly lp w) (hk : k.Ok) (x : Arv) (hx : ArvOk x) (h1 : ly.length ≤ 1000) (r1 : RiseA ly) :
    Calls Tryz.prog 31 #[.pointer (some ⟨k.by_, 0, none⟩), encA x] w (fun e w' => ∃ vn, e = .returned (.tuple #[.bool (putB ly x), .int .i64 (aF x)]) ∧ Sit k B vx vo vn vp lx lo (putL ly x) lp w') := by
  refine (putR_any x w h.y (hk.esn _ h.kw) hx r1 h1 h.kw.size).mono ?_
  rintro e w' ⟨vn, rfl, hn, hm⟩
  exact ⟨vn, rfl, h.my hk hn hm⟩
theorem Sit.putQ (h : Sit k B vx vo vy vp lx lo ly lp w) (hk : k.Ok) (x : Arv) (hx : ArvOk x) (h1 : lp.length ≤ 1000) (r1 : RiseA lp) :
    Calls Tryz.prog 31 #[.pointer (some ⟨k.bp, 0, none⟩), encA x] w (fun e w' => ∃ vn, e = .returned (.tuple #[.bool (putB lp x), .int .i64 (aF x)]) ∧ Sit k B vx vo vy vn lx lo ly (putL lp x) w') := by
  refine (putR_any x w h.p (hk.esn _ h.kw) hx r1 h1 h.kw.size).mono ?_
  rintro e w' ⟨vn, rfl, hn, hm⟩
  exact ⟨vn, rfl, h.mp hk hn hm⟩
/-- What Entries works on. -/
theorem Sit.callIn (h : Sit k B vx vo vy vp lx lo ly lp w) (hk : k.Ok) (h1 : lx.length ≤ 1000) (hok : ∀ x ∈ lx, ArvOk x) : ∃ la cap, vx = .slice la lx.length cap ∧ CallIn k.a k.f k.s k.rx lx la w := by
  obtain ⟨la, cap, e, hsa, hlf, -⟩ := h.x.2.1.form
  exact ⟨la, cap, e, hk.esn _ h.kw, hk.rxs.kp h.kw (fun x hx _ => hk.rxn x hx), hk.hsl, hk.hsm, hk.hbd, hk.ab, hsa, hlf.elim .inl (fun ⟨g, e, _⟩ => .inr ⟨g, 0, e⟩), by omega, hok⟩
theorem Sit.callInR (h : Sit k B vx vo vy vp lx lo ly lp w) (hk : k.Ok) {l : List Arv} {la : Option Addr} (hsa : SA w la l) (hlf : la = none ∨ ∃ b off, la = some ⟨b, off, none⟩) (h1 : l.length ≤ 1000) (hok : ∀ x ∈ l, ArvOk x) : CallIn k.a k.f k.s k.rc l la w :=
  ⟨hk.esn _ h.kw, hk.rcs.kp h.kw (fun x hx _ => hk.rcn x hx), hk.hsl, hk.hsm, hk.hbd, hk.ab, hsa, hlf, by omega, hok⟩
theorem Sit.entries (h : Sit k B vx vo vy vp lx lo ly lp w) (hk : k.Ok) (h1 : lx.length ≤ 1000) (hok : ∀ x ∈ lx, ArvOk x) (t : Int) :
    Calls Tryz.prog 32 #[.pointer (some ⟨k.bx, 0, none⟩), .int .i64 t] w (GivesList (stsV k.o k.a k.f k.s lx t) (stsE k.o k.a k.f k.s lx t) w) := by
  obtain ⟨la, cap, rfl, hI⟩ := h.callIn hk h1 hok
  exact entriesB_any t w h.x hI
end
end Go.Proofs.YtifflpilnpcmoaaGreatDoor
