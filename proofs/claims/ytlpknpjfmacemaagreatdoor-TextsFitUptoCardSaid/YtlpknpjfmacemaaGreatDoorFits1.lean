/- Forms and texts: the closures. -/
import Derived.Test.YtlpknpjfmacemaaGreatDoorLine4
import Derived.Test.YtlpknpjfmacemaaGreatDoorForm1
namespace Go.Proofs.YtlpknpjfmacemaaGreatDoor
open Go.RowKit
set_option linter.unusedVariables false
set_option linter.unusedSimpArgs false

def encSect (x : Sect) : Value := .agg #[.int .i64 x.1, .string x.2.1, .int .i64 x.2.2]
set_option maxRecDepth 100000 in
set_option maxHeartbeats 4000000 in
theorem indexSect_any (l : List Sect) (a : Option Addr) (cap g : Nat) (lb : Array Value) (c : Sect → Bool) (w : World) (eg : ∀ args w, (callFunc g args).run Tryz.prog w = .ok (.enter g args) w) (h : SA w a l) (hlen : l.length ≤ 1000000000) (hc : TestAt encSect g lb c l w) :
    Calls Tryz.prog 133 #[.slice a l.length cap, .func (.func g) #[] lb] w (fun e w' => ∃ r : Int, e = .returned (.int .i64 r) ∧ decide (0 ≤ r) = l.any c ∧ Below w.heap.size w w' ∧ r = idxI c l) := by
  have HC := Lib.hid hc
  clear hc
  go_enter Tryz.func133, Tryz.ntmps133
  go_wp2_with fail
  go_loopg [8] l.length (fun gk i wr => ∃ k : Nat, i = .int .i64 k ∧ k ≤ l.length ∧ Hid (gk = l.length - k) ∧ Hid (∀ x ∈ l.take k, c x = false) ∧ Below w.heap.size w wr)
  case atStart => exact ⟨0, rfl, by omega, rfl, fun x hx => (by cases hx), Below.refl _ _⟩
  case round =>
    obtain ⟨k, rfl, hk, hgk, hf, hb⟩ := hrel
    by_cases hlt : k < l.length
    · obtain ⟨b, off, ha, c0, c1, c2⟩ := (h.below hb).sect hlt
      have HCx := Lib.hid (HC.out l[k] (List.getElem_mem hlt) wr hb)
      have Hat := Lib.hid (any_at (c := c) hlt)
      have Htk := Lib.hid (List.take_succ_eq_append_getElem hlt)
      have Hix := Lib.hid (fun h => idxI_at (c := c) hlt h hf.out)
      have Ha := Lib.hid ha
      rw [ha]
      clear ha
      generalize l[k] = x at *
      obtain ⟨x1, x2, x3⟩ := x
      (try simp only at *)
      have hk1 : (0 : Int) ≤ (k : Int) := by omega
      have hk2 : (k : Int) < (l.length : Int) := by omega
      obtain ⟨cx, hcx⟩ : ∃ cx, c ⟨x1, x2, x3⟩ = cx := ⟨_, rfl⟩
      rw [hcx] at HCx Hat Hix
      have Hcx := Lib.hid hcx
      clear hcx
      go_wp2_with fail
      refine HCx.out.mono ?_
      rintro e w1 ⟨rfl, hb1⟩
      have hb1' := below_next hb hb1
      cases cx
      · go_wp2_with fail
        rw [← Ha.out]
        go_roundg (l.length - (k + 1))
        case measure => have := hgk.out; omega
        case rel => exact ⟨k + 1, by go_num, by omega, rfl, by rw [Htk.out]; exact fun x hx => (List.mem_append.1 hx).elim (hf.out x) (fun h => by rw [List.mem_singleton.1 h]; exact Hcx.out), hb1'⟩
      · have Hany := Lib.hid (Hat.out rfl)
        have Hr := Lib.hid (Hix.out rfl)
        go_wp2_with fail
        go_ret
        exact ⟨_, rfl, by rw [Hany.out]; exact decide_eq_true hk1, hb1', Hr.out.symm⟩
    · obtain rfl : k = l.length := by omega
      have Hany := Lib.hid (any_none hf.out)
      have Hr := Lib.hid (idxI_none hf.out)
      go_wp2_with fail
      go_ret
      exact ⟨_, rfl, by rw [Hany.out]; rfl, hb, Hr.out.symm⟩
set_option maxHeartbeats 4000000 in
theorem findSect_any (l : List Sect) (a : Option Addr) (cap g : Nat) (lb : Array Value) (c : Sect → Bool) (w : World) (eg : ∀ args w, (callFunc g args).run Tryz.prog w = .ok (.enter g args) w) (h : SA w a l) (hlen : l.length ≤ 1000000000) (hc : TestAt encSect g lb c l w) :
    Calls Tryz.prog 68 #[.slice a l.length cap, .func (.func g) #[] lb] w (Gives (.bool (l.any c)) w) := by
  have HI := Lib.hid (indexSect_any l a cap g lb c w eg h hlen hc)
  clear hc
  go_enter Tryz.func68, Tryz.ntmps68
  go_wp2_with fail
  refine HI.out.mono ?_
  rintro e w1 ⟨r, rfl, hr, hb, hri⟩
  clear hri
  go_wp2_with fail
  go_ret
  exact ⟨by rw [← hr] <;> rfl, hb⟩
def hasM (m : ByteArray) (x : Sect) : Bool := decide (lowS x.2.1 = m)
set_option maxHeartbeats 2000000 in
theorem hasCloP_any (x : Sect) (bq : Nat) (m : ByteArray) (w : World) (hc : w.cell? ⟨bq, 0, none⟩ = some (.string m)) (hx : x.2.1.size ≤ 100000000) :
    Calls Tryz.prog 69 #[encSect x, .pointer (some ⟨bq, 0, none⟩)] w (Gives (.bool (hasM m x)) w) := by
  obtain ⟨x1, x2, x3⟩ := x
  have HL := Lib.hid (fun W => lower_any x2 W (by have : x2.size ≤ 100000000 := hx; omega))
  have Hb := Lib.hid (toList_beq (lowS x2) m)
  unfold encSect hasM
  simp only at hx ⊢
  generalize decide (lowS x2 = m) = d at *
  generalize lowS x2 = lx at *
  have hB := Box.new w 54 #[.int .i64 x1, .string x2, .int .i64 x3]
  have hb0 : Below w.heap.size w (w.alloc (.cells #[.int .i64 x1, .string x2, .int .i64 x3] 54)) := by (repeat' (first | exact Below.refl _ _ | assumption | refine Below.setCell ?_ ?_ _ | refine below_drewN ?_ _ | refine Below.drew ?_ | refine Below.alloc ?_ ?_ _ | (with_reducible refine Below.trans ?_ (Below.mono hb ?_)) | (with_reducible refine Below.trans ?_ (Below.mono hb0 ?_)) | (with_reducible refine Below.trans ?_ (Below.mono hb1 ?_)) | (with_reducible refine Below.trans ?_ (Below.mono hb2 ?_)) | (with_reducible refine Below.trans ?_ (Below.mono hb3 ?_)) | (with_reducible refine Below.trans ?_ (Below.mono hb4 ?_)) | (with_reducible refine Below.trans ?_ (Below.mono hb5 ?_)) | (with_reducible refine Below.trans ?_ (Below.mono hb6 ?_)) | (with_reducible refine Below.trans ?_ (Below.mono hb7 ?_)) | (with_reducible refine Below.trans ?_ (Below.mono hb8 ?_)) | (with_reducible refine Below.trans ?_ (Below.mono hb9 ?_)) | (with_reducible refine Below.trans ?_ (Below.mono hb10 ?_)) | (with_reducible refine Below.trans ?_ (Below.mono hb11 ?_)) | (with_reducible refine Below.trans ?_ (Below.mono hb12 ?_)) | (with_reducible refine Below.trans ?_ (Below.mono hb13 ?_)) | (with_reducible refine Below.trans ?_ (Below.mono hb14 ?_)) | (with_reducible refine Below.trans ?_ (Below.mono hb15 ?_)) | omega | (simp; done) | (simp; omega)))
  have hc0 := cell_later hb0 hc
  have hc1 := hB.cell 1
  go_enter Tryz.func69, Tryz.ntmps69
  go_upto_region 1 with (fail)
  refine wp_region_held_drew (S := (fun wy => wy.cell? ⟨w.heap.size, 1, none⟩ = some (.string x2) ∧ wy.cell? ⟨bq, 0, none⟩ = some (.string m))) (by kernel_rfl) ?hS (fun hHeld => ?_)
  case hS => exact ⟨hc1, hc0⟩
  refine rtake (i := 0) (d := (some 4)) (v := ?_) rfl (by kernel_rfl) (by kernel_rfl) (by kernel_rfl) (by kernel_rfl) (fun _ _ _ h => h) (by kernel_rfl) (by assumption) ?_ ?_
  rotate_left 1
  · (intro wI hSI; (try dsimp only at hSI); go_simp; (try with_reducible rfl))
  simp only [Act.put, List.setIfInBounds_toArray, List.set_cons_zero, List.set_cons_succ]
  refine rtake (i := 1) (d := (some 5)) (v := ?_) rfl (by kernel_rfl) (by kernel_rfl) (by kernel_rfl) (by kernel_rfl) (fun _ _ _ h => h) (by kernel_rfl) (by assumption) ?_ ?_
  rotate_left 1
  · (intro wI hSI; (try dsimp only at hSI); go_simp; (try with_reducible rfl))
  simp only [Act.put, List.setIfInBounds_toArray, List.set_cons_zero, List.set_cons_succ]
  refine rtake (i := 3) (d := (some 7)) (v := ?_) rfl (by kernel_rfl) (by kernel_rfl) (by kernel_rfl) (by kernel_rfl) (fun _ _ _ h => h) (by kernel_rfl) (by assumption) ?_ ?_
  rotate_left 1
  · (intro wI hSI; (try dsimp only at hSI); go_simp; (try with_reducible rfl))
  simp only [Act.put, List.setIfInBounds_toArray, List.set_cons_zero, List.set_cons_succ]
  refine rcall (i := 2) (d := (some 6)) (by kernel_rfl) rfl (by kernel_rfl) (fun K hK => ?_)
  go_simp
  go_at_call 61; refine (HL.out _).mono ?_; rintro e w3 ⟨rfl, hb3⟩
  refine hK.out _ _ ?hS (fun hHeld => ?_)
  case hS => exact ⟨cell_later hb3 hHeld.1, cell_later hb3 hHeld.2⟩
  clear hK K
  simp only [Act.put, List.setIfInBounds_toArray, List.set_cons_zero, List.set_cons_succ]
  refine rtake (i := 4) (d := (some 8)) (v := ?_) rfl (by kernel_rfl) (by kernel_rfl) (by kernel_rfl) (by kernel_rfl) (fun _ _ _ h => h) (by kernel_rfl) (by assumption) ?_ ?_
  rotate_left 1
  · (intro wI hSI; (try dsimp only at hSI); go_simp; (try with_reducible rfl))
  simp only [Act.put, List.setIfInBounds_toArray, List.set_cons_zero, List.set_cons_succ]
  refine rtake (i := 5) (d := (some 3)) (v := ?_) rfl (by kernel_rfl) (by kernel_rfl) (by kernel_rfl) (by kernel_rfl) (fun _ _ _ h => h) (by kernel_rfl) (by assumption) ?_ ?_
  rotate_left 1
  · (intro wI hSI; (try dsimp only at hSI); go_simp; (try with_reducible rfl))
  simp only [Act.put, List.setIfInBounds_toArray, List.set_cons_zero, List.set_cons_succ]
  refine wpAnyH_done (by kernel_rfl) ?_ _
  have hb := Hb.out
  go_wp2_with fail
  go_ret
  exact ⟨by rw [← Hb.out] <;> rfl, below_next hb0.drew hb3⟩
set_option maxHeartbeats 2000000 in
theorem hasCloR_any (x : Sect) (bq : Nat) (m : ByteArray) (w : World) (hc : w.cell? ⟨bq, 0, none⟩ = some (.string m)) (hx : x.2.1.size ≤ 100000000) :
    Calls Tryz.prog 72 #[encSect x, .pointer (some ⟨bq, 0, none⟩)] w (Gives (.bool (hasM m x)) w) := by
  obtain ⟨x1, x2, x3⟩ := x
  have HL := Lib.hid (fun W => lowerR_any x2 W (by have : x2.size ≤ 100000000 := hx; omega))
  have Hb := Lib.hid (toList_beq (lowS x2) m)
  unfold encSect hasM
  simp only at hx ⊢
  generalize decide (lowS x2 = m) = d at *
  generalize lowS x2 = lx at *
  have hB := Box.new w 54 #[.int .i64 x1, .string x2, .int .i64 x3]
  have hb0 : Below w.heap.size w (w.alloc (.cells #[.int .i64 x1, .string x2, .int .i64 x3] 54)) := by (repeat' (first | exact Below.refl _ _ | assumption | refine Below.setCell ?_ ?_ _ | refine below_drewN ?_ _ | refine Below.drew ?_ | refine Below.alloc ?_ ?_ _ | (with_reducible refine Below.trans ?_ (Below.mono hb ?_)) | (with_reducible refine Below.trans ?_ (Below.mono hb0 ?_)) | (with_reducible refine Below.trans ?_ (Below.mono hb1 ?_)) | (with_reducible refine Below.trans ?_ (Below.mono hb2 ?_)) | (with_reducible refine Below.trans ?_ (Below.mono hb3 ?_)) | (with_reducible refine Below.trans ?_ (Below.mono hb4 ?_)) | (with_reducible refine Below.trans ?_ (Below.mono hb5 ?_)) | (with_reducible refine Below.trans ?_ (Below.mono hb6 ?_)) | (with_reducible refine Below.trans ?_ (Below.mono hb7 ?_)) | (with_reducible refine Below.trans ?_ (Below.mono hb8 ?_)) | (with_reducible refine Below.trans ?_ (Below.mono hb9 ?_)) | (with_reducible refine Below.trans ?_ (Below.mono hb10 ?_)) | (with_reducible refine Below.trans ?_ (Below.mono hb11 ?_)) | (with_reducible refine Below.trans ?_ (Below.mono hb12 ?_)) | (with_reducible refine Below.trans ?_ (Below.mono hb13 ?_)) | (with_reducible refine Below.trans ?_ (Below.mono hb14 ?_)) | (with_reducible refine Below.trans ?_ (Below.mono hb15 ?_)) | omega | (simp; done) | (simp; omega)))
  have hc0 := cell_later hb0 hc
  have hc1 := hB.cell 1
  go_enter Tryz.func72, Tryz.ntmps72
  go_upto_region 1 with (fail)
  refine wp_region_held_drew (S := (fun wy => wy.cell? ⟨w.heap.size, 1, none⟩ = some (.string x2) ∧ wy.cell? ⟨bq, 0, none⟩ = some (.string m))) (by kernel_rfl) ?hS (fun hHeld => ?_)
  case hS => exact ⟨hc1, hc0⟩
  refine rtake (i := 0) (d := (some 4)) (v := ?_) rfl (by kernel_rfl) (by kernel_rfl) (by kernel_rfl) (by kernel_rfl) (fun _ _ _ h => h) (by kernel_rfl) (by assumption) ?_ ?_
  rotate_left 1
  · (intro wI hSI; (try dsimp only at hSI); go_simp; (try with_reducible rfl))
  simp only [Act.put, List.setIfInBounds_toArray, List.set_cons_zero, List.set_cons_succ]
  refine rtake (i := 1) (d := (some 5)) (v := ?_) rfl (by kernel_rfl) (by kernel_rfl) (by kernel_rfl) (by kernel_rfl) (fun _ _ _ h => h) (by kernel_rfl) (by assumption) ?_ ?_
  rotate_left 1
  · (intro wI hSI; (try dsimp only at hSI); go_simp; (try with_reducible rfl))
  simp only [Act.put, List.setIfInBounds_toArray, List.set_cons_zero, List.set_cons_succ]
  refine rtake (i := 3) (d := (some 7)) (v := ?_) rfl (by kernel_rfl) (by kernel_rfl) (by kernel_rfl) (by kernel_rfl) (fun _ _ _ h => h) (by kernel_rfl) (by assumption) ?_ ?_
  rotate_left 1
  · (intro wI hSI; (try dsimp only at hSI); go_simp; (try with_reducible rfl))
  simp only [Act.put, List.setIfInBounds_toArray, List.set_cons_zero, List.set_cons_succ]
  refine rcall (i := 2) (d := (some 6)) (by kernel_rfl) rfl (by kernel_rfl) (fun K hK => ?_)
  go_simp
  go_at_call 58; refine (HL.out _).mono ?_; rintro e w3 ⟨rfl, hb3⟩
  refine hK.out _ _ ?hS (fun hHeld => ?_)
  case hS => exact ⟨cell_later hb3 hHeld.1, cell_later hb3 hHeld.2⟩
  clear hK K
  simp only [Act.put, List.setIfInBounds_toArray, List.set_cons_zero, List.set_cons_succ]
  refine rtake (i := 4) (d := (some 8)) (v := ?_) rfl (by kernel_rfl) (by kernel_rfl) (by kernel_rfl) (by kernel_rfl) (fun _ _ _ h => h) (by kernel_rfl) (by assumption) ?_ ?_
  rotate_left 1
  · (intro wI hSI; (try dsimp only at hSI); go_simp; (try with_reducible rfl))
  simp only [Act.put, List.setIfInBounds_toArray, List.set_cons_zero, List.set_cons_succ]
  refine rtake (i := 5) (d := (some 3)) (v := ?_) rfl (by kernel_rfl) (by kernel_rfl) (by kernel_rfl) (by kernel_rfl) (fun _ _ _ h => h) (by kernel_rfl) (by assumption) ?_ ?_
  rotate_left 1
  · (intro wI hSI; (try dsimp only at hSI); go_simp; (try with_reducible rfl))
  simp only [Act.put, List.setIfInBounds_toArray, List.set_cons_zero, List.set_cons_succ]
  refine wpAnyH_done (by kernel_rfl) ?_ _
  have hb := Hb.out
  go_wp2_with fail
  go_ret
  exact ⟨by rw [← Hb.out] <;> rfl, below_next hb0.drew hb3⟩

abbrev Flt := Int × ByteArray
instance instCelFlt : Cel Flt := ⟨2, fun t => [.int .i64 t.1, .string t.2], fun _ => rfl, by decide, by simp [Value.oneCell']⟩
theorem SA.flt {w : World} {a : Option Addr} {l : List Flt} (h : SA w a l) {i : Nat} (hi : i < l.length) :
    ∃ b off, a = some ⟨b, off, none⟩ ∧ w.cell? ⟨b, off + i * 2, none⟩ = some (.int .i64 l[i].1) ∧ w.cell? ⟨b, off + i * 2 + 1, none⟩ = some (.string l[i].2) := by
  obtain ⟨b, off, ha, hc⟩ := h.at hi
  exact ⟨b, off, ha, hc 0 (by decide), hc 1 (by decide)⟩
theorem Tryz.infoFlt : (Tryz.prog.info? 47).map (fun i => (i.zero, i.size, i.bytes)) = some (some (.agg #[.int .i64 0, .string ⟨#[]⟩]), 2, 24) := by kernel_rfl
def addF (b : Bool) (k : Int) (t : ByteArray) (acc : List Flt) : List Flt := if b = true then acc ++ [(k, t)] else acc
theorem addF_len (b : Bool) (k : Int) (t : ByteArray) (acc : List Flt) : (addF b k t acc).length ≤ acc.length + 1 := by unfold addF; split <;> simp
/-- Faults found, in the block q, and sections that lie elsewhere. -/
structure FitSt (q : Nat) (w : World) (v : Value) (acc : List Flt) (sa : Option Addr) (secs : List Sect) : Prop where
  box : Box w q 40 #[v]
  own : Own (q + 1) 47 w v acc
  sec : SA w sa secs
  far : ∀ x : Addr, sa = some x → x.block ≠ q ∧ v.ownBlock ≠ some x.block ∧ x.block < w.heap.size
theorem FitSt.below {q : Nat} {w w' : World} {v : Value} {acc : List Flt} {sa : Option Addr} {secs : List Sect} (h : FitSt q w v acc sa secs) (k : Below w.heap.size w w') : FitSt q w' v acc sa secs :=
  ⟨h.box.below k, h.own.below k, h.sec.below k, fun x hx => ⟨(h.far x hx).1, (h.far x hx).2.1, by have := (h.far x hx).2.2; have := k.size; omega⟩⟩
/-- What is left behind a fault: all but the block q and the list's own block. -/
def FitTo (q : Nat) (acc2 : List Flt) (sa : Option Addr) (secs : List Sect) (v : Value) (w w' : World) : Prop :=
  ∃ v', FitSt q w' v' acc2 sa secs ∧ Kp (fun j => j = q ∨ v.ownBlock = some j) w w' ∧ ∀ j, v'.ownBlock = some j → v.ownBlock = some j ∨ w.heap.size ≤ j
set_option maxHeartbeats 2000000 in
theorem addCloP_any (q : Nat) (v : Value) (acc : List Flt) (sa : Option Addr) (secs : List Sect) (b : Bool) (k : Int) (t : ByteArray) (w : World) (h : FitSt q w v acc sa secs) (hl : acc.length ≤ 1000000) :
    Calls Tryz.prog 67 #[.bool b, .int .i64 k, .string t, .pointer (some ⟨q, 0, none⟩)] w (fun e w' => e = .returned (.tuple #[]) ∧ FitTo q (addF b k t acc) sa secs v w w') := by
  cases b
  · have H := Lib.hid h
    clear h
    go_enter Tryz.func67, Tryz.ntmps67
    go_wp2_with fail
    go_end0
    exact ⟨rfl, v, H.out, Kp.refl _ _, fun j hj => .inl hj⟩
  · have hb0 := h.box.cell 0
    have hql := h.box.lt
    have hown1 := h.own.alloc (.cells #[.int .i64 k, .string t] 47)
    have hbx1 := h.box.alloc (.cells #[.int .i64 k, .string t] 47)
    have hbo := Box.new w 47 #[.int .i64 k, .string t]
    have Hol := Lib.hid h.own.lt
    have Hsec := Lib.hid h.sec
    have Hfar := Lib.hid h.far
    have hk1 : Kp (fun j => j = q ∨ v.ownBlock = some j) w (w.alloc (.cells #[.int .i64 k, .string t] 47)) := (Kp.refl _ _).alloc _
    clear h
    simp at hb0
    go_enter Tryz.func67, Tryz.ntmps67
    go_wp2_with (at_builtin; refine wpList_append_lie (α := Flt) rfl _ _ 40 rfl 47 24 (.agg #[.int .i64 0, .string ⟨#[]⟩]) Tryz.underlying40 Tryz.infoFlt rfl v acc rfl hown1 (k, t) _ rfl hbo (by omega) (by omega) (by simp; omega) ?_; intro g9 cap9 w9 hown9 hg9 hat9; have hq9 := hbx1.kp ((Kp.refl (fun b => v.ownBlock = some b) _).grown hg9 (fun j hj => .inl hj)) (fun e => by have := (Hol.out _ e).1; omega); have hfr9 := hq9.frozen 0; have hc9 := hq9.cell 0)
    have hk9 := hk1.grown hg9 (fun j hj => .inl (.inr hj))
    have hk10 := hk9.setCell (p := ⟨q, 0, none⟩) (.inl (.inl rfl)) (.slice (some ⟨g9, 0, none⟩) (acc.length + 1) cap9)
    have hown10 := hown9.kp ((Kp.refl (fun b => b = q) w9).setCell (p := ⟨q, 0, none⟩) (.inl rfl) (.slice (some ⟨g9, 0, none⟩) (acc.length + 1) cap9)) (fun j hj e => by have := (hown9.lt j hj).1; omega)
    have hq10 := hq9.set 0 (.slice (some ⟨g9, 0, none⟩) (acc.length + 1) cap9)
    have hsec10 := Hsec.out.kp hk10 (fun x hx _ e => by rcases e with e | e; exact (Hfar.out x hx).1 e; exact (Hfar.out x hx).2.1 e)
    have hsz10 := hk10.size
    go_wp2_with fail
    go_end0
    refine ⟨rfl, .slice (some ⟨g9, 0, none⟩) (acc.length + 1) cap9, ⟨hq10, hown10, hsec10, fun x hx => ⟨(Hfar.out x hx).1, fun e => ?_, by have := (Hfar.out x hx).2.2; omega⟩⟩, hk10, fun j hj => ?_⟩
    rotate_left 1
    · have eg : g9 = j := by simpa [Value.ownBlock] using hj
      rcases hat9 with h9 | h9
      · exact .inl (by rw [h9, eg])
      · simp at h9; exact .inr (by omega)
    have eg : g9 = x.block := by simpa [Value.ownBlock] using e
    rcases hat9 with h9 | h9
    · exact (Hfar.out x hx).2.1 (by rw [h9, eg])
    · have h1 := (Hfar.out x hx).2.2
      simp at h9
      omega
set_option maxHeartbeats 2000000 in
theorem addCloR_any (q : Nat) (v : Value) (acc : List Flt) (sa : Option Addr) (secs : List Sect) (b : Bool) (k : Int) (t : ByteArray) (w : World) (h : FitSt q w v acc sa secs) (hl : acc.length ≤ 1000000) :
    Calls Tryz.prog 71 #[.bool b, .int .i64 k, .string t, .pointer (some ⟨q, 0, none⟩)] w (fun e w' => e = .returned (.tuple #[]) ∧ FitTo q (addF b k t acc) sa secs v w w') := by
  cases b
  · have H := Lib.hid h
    clear h
    go_enter Tryz.func71, Tryz.ntmps71
    go_wp2_with fail
    go_end0
    exact ⟨rfl, v, H.out, Kp.refl _ _, fun j hj => .inl hj⟩
  · have hb0 := h.box.cell 0
    have hql := h.box.lt
    have hown1 := h.own.alloc (.cells #[.int .i64 k, .string t] 47)
    have hbx1 := h.box.alloc (.cells #[.int .i64 k, .string t] 47)
    have hbo := Box.new w 47 #[.int .i64 k, .string t]
    have Hol := Lib.hid h.own.lt
    have Hsec := Lib.hid h.sec
    have Hfar := Lib.hid h.far
    have hk1 : Kp (fun j => j = q ∨ v.ownBlock = some j) w (w.alloc (.cells #[.int .i64 k, .string t] 47)) := (Kp.refl _ _).alloc _
    clear h
    simp at hb0
    go_enter Tryz.func71, Tryz.ntmps71
    go_wp2_with (at_builtin; refine wpList_append_lie (α := Flt) rfl _ _ 40 rfl 47 24 (.agg #[.int .i64 0, .string ⟨#[]⟩]) Tryz.underlying40 Tryz.infoFlt rfl v acc rfl hown1 (k, t) _ rfl hbo (by omega) (by omega) (by simp; omega) ?_; intro g9 cap9 w9 hown9 hg9 hat9; have hq9 := hbx1.kp ((Kp.refl (fun b => v.ownBlock = some b) _).grown hg9 (fun j hj => .inl hj)) (fun e => by have := (Hol.out _ e).1; omega); have hfr9 := hq9.frozen 0; have hc9 := hq9.cell 0)
    have hk9 := hk1.grown hg9 (fun j hj => .inl (.inr hj))
    have hk10 := hk9.setCell (p := ⟨q, 0, none⟩) (.inl (.inl rfl)) (.slice (some ⟨g9, 0, none⟩) (acc.length + 1) cap9)
    have hown10 := hown9.kp ((Kp.refl (fun b => b = q) w9).setCell (p := ⟨q, 0, none⟩) (.inl rfl) (.slice (some ⟨g9, 0, none⟩) (acc.length + 1) cap9)) (fun j hj e => by have := (hown9.lt j hj).1; omega)
    have hq10 := hq9.set 0 (.slice (some ⟨g9, 0, none⟩) (acc.length + 1) cap9)
    have hsec10 := Hsec.out.kp hk10 (fun x hx _ e => by rcases e with e | e; exact (Hfar.out x hx).1 e; exact (Hfar.out x hx).2.1 e)
    have hsz10 := hk10.size
    go_wp2_with fail
    go_end0
    refine ⟨rfl, .slice (some ⟨g9, 0, none⟩) (acc.length + 1) cap9, ⟨hq10, hown10, hsec10, fun x hx => ⟨(Hfar.out x hx).1, fun e => ?_, by have := (Hfar.out x hx).2.2; omega⟩⟩, hk10, fun j hj => ?_⟩
    rotate_left 1
    · have eg : g9 = j := by simpa [Value.ownBlock] using hj
      rcases hat9 with h9 | h9
      · exact .inl (by rw [h9, eg])
      · simp at h9; exact .inr (by omega)
    have eg : g9 = x.block := by simpa [Value.ownBlock] using e
    rcases hat9 with h9 | h9
    · exact (Hfar.out x hx).2.1 (by rw [h9, eg])
    · have h1 := (Hfar.out x hx).2.2
      simp at h9
      omega
end Go.Proofs.YtlpknpjfmacemaaGreatDoor
