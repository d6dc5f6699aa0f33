/- What there is of a paper at a moment: of the reference. -/
import Derived.Test.YtifflpilnpcmoaaGreatDoorEntry
import Derived.Test.YtifflpilnpcmoaaGreatDoorByP2
import Derived.Test.YtifflpilnpcmoaaGreatDoorStates
import Derived.Sort.OwnSortedInts
/-! What there is of a paper at a moment: of the reference. -/
namespace Go.Proofs.YtifflpilnpcmoaaGreatDoor
open Go.RowKit
set_option linter.unusedVariables false
set_option linter.unusedSimpArgs false

theorem PtrIs.setOther {w : World} {v : Value} {o : Option Arv} (h : PtrIs w v o) {p : Addr} (hne : ∀ x : Addr, v = .pointer (some x) → x.block ≠ p.block) (u : Value) : PtrIs (w.setCell p u) v o := by
  rcases h with h | ⟨x, b, off, h1, h2, c0, c1, c2, c3, c4⟩
  · exact .inl h
  · have hb : b ≠ p.block := hne _ h2
    have hk : ∀ o, (w.setCell p u).cell? ⟨b, o, none⟩ = w.cell? ⟨b, o, none⟩ := fun o => World.cell?_of_block (Below.heap_setCell _ _ _ _ hb)
    exact .inr ⟨x, b, off, h1, h2, by rw [hk]; exact c0, by rw [hk]; exact c1, by rw [hk]; exact c2, by rw [hk]; exact c3, by rw [hk]; exact c4⟩
theorem PtrIs.ofBox {w : World} {b : Nat} {T : TypeId} {x : Arv} (h : Box w b T #[.string x.1, .int .i64 x.2.1, .int .i64 x.2.2.1, .string x.2.2.2.1, .string x.2.2.2.2]) : PtrIs w (.pointer (some ⟨b, 0, none⟩)) (some x) :=
  .inr ⟨x, b, 0, rfl, rfl, h.cell 0, h.cell 1, h.cell 2, h.cell 3, h.cell 4⟩
theorem PtrIs.cells5 {w : World} {b off : Nat} {x : Arv} (h : PtrIs w (.pointer (some ⟨b, off, none⟩)) (some x)) : w.cell? ⟨b, off, none⟩ = some (.string x.1) ∧ w.cell? ⟨b, off + 1, none⟩ = some (.int .i64 x.2.1) ∧ w.cell? ⟨b, off + 2, none⟩ = some (.int .i64 x.2.2.1) ∧ w.cell? ⟨b, off + 3, none⟩ = some (.string x.2.2.2.1) ∧ w.cell? ⟨b, off + 4, none⟩ = some (.string x.2.2.2.2) := by
  obtain ⟨b', o', e, c⟩ := h.isSome
  cases e
  exact c
/-- The best arrivals of the kinds 1 to 3, as pointers to blocks behind lb. -/
def LastW (w : World) (lb : Nat) (vs : Array Value) (f : Int → Option Arv) : Prop := vs.size = 4 ∧ ∀ q : Nat, 1 ≤ q → q ≤ 3 → ∃ v, vs[q]? = some v ∧ PtrIs w v (f q) ∧ ∀ x : Addr, v = .pointer (some x) → lb < x.block
theorem LastW.nil (w : World) (lb : Nat) {f : Int → Option Arv} (hf : ∀ q, f q = none) : LastW w lb #[.pointer none, .pointer none, .pointer none, .pointer none] f := by
  refine ⟨rfl, fun q h1 h2 => ⟨.pointer none, ?_, .inl ⟨hf _, rfl⟩, fun x h => by cases h⟩⟩
  obtain rfl | rfl | rfl : q = 1 ∨ q = 2 ∨ q = 3 := by omega
  all_goals rfl
theorem LastW.below {w w' : World} {lb : Nat} {vs : Array Value} {f : Int → Option Arv} (h : LastW w lb vs f) (hb : Below w.heap.size w w') : LastW w' lb vs f :=
  ⟨h.1, fun q h1 h2 => by obtain ⟨v, e, p, k⟩ := h.2 q h1 h2; exact ⟨v, e, p.below hb, k⟩⟩
theorem LastW.congr {w : World} {lb : Nat} {vs : Array Value} {f g : Int → Option Arv} (h : LastW w lb vs f) (hg : ∀ q, g q = f q) : LastW w lb vs g := ⟨h.1, fun q h1 h2 => by rw [hg]; exact h.2 q h1 h2⟩
theorem LastW.put {w : World} {lb ab : Nat} {T : TypeId} {vs : Array Value} {f g : Int → Option Arv} (h : LastW w lb vs f) {n : Nat} {x : Arv} (hn : n ≤ 3) (hA : Box w ab T #[.string x.1, .int .i64 x.2.1, .int .i64 x.2.2.1, .string x.2.2.2.1, .string x.2.2.2.2]) (hab : lb < ab) (hg : ∀ q : Int, g q = if q = n then some x else f q) :
    LastW (w.setCell ⟨lb, n, none⟩ (.pointer (some ⟨ab, 0, none⟩))) lb (vs.setIfInBounds n (.pointer (some ⟨ab, 0, none⟩))) g := by
  refine ⟨by rw [Array.size_setIfInBounds]; exact h.1, fun q h1 h2 => ?_⟩
  rw [hg]
  by_cases e : q = n
  · subst e
    rw [if_pos rfl]
    refine ⟨_, by rw [Array.getElem?_setIfInBounds_self, if_pos (by have := h.1; omega)], (PtrIs.ofBox hA).setOther (fun y hy => ?_) _, fun y hy => ?_⟩
    · cases hy; show ab ≠ lb; omega
    · cases hy; exact hab
  · rw [if_neg (by omega)]
    obtain ⟨u, hu, hpu, hk⟩ := h.2 q h1 h2
    exact ⟨u, by rw [Array.getElem?_setIfInBounds_ne (by omega)]; exact hu, hpu.setOther (fun y hy => by have := hk y hy; show y.block ≠ lb; omega) _, hk⟩
theorem bestTo_all_yes {p : Arv → Bool} {id : ByteArray} {t : Int} {l : List Arv} {k : Nat} (hk : k < l.length) (h1 : l[k].1 = id) (h2 : l[k].2.1 ≤ t) (h3 : p l[k] = true) (h4 : newer (bestTo p id t l[k].2.2.1 l k) l[k] = true) (q : Int) : bestTo p id t q l (k + 1) = if q = l[k].2.2.1 then some l[k] else bestTo p id t q l k := by
  by_cases hq : q = l[k].2.2.1
  · rw [if_pos hq]
    refine bestTo_yes hk ?_
    rw [hq, h4]
    unfold okB
    rw [decide_eq_true h1, decide_eq_true h2, h3]
    simp
  · rw [if_neg hq]
    refine bestTo_no hk ?_
    unfold okB
    rw [decide_eq_false (p := l[k].2.2.1 = q) (fun e => hq e.symm)]
    simp
theorem bestTo_all_c {p : Arv → Bool} {id : ByteArray} {t : Int} {l : List Arv} {k : Nat} (hk : k < l.length) (h : (decide (l[k].1 = id) && (decide (l[k].2.1 ≤ t) && p l[k])) = false) (q : Int) : bestTo p id t q l (k + 1) = bestTo p id t q l k := by
  refine bestTo_no hk ?_
  unfold okB
  cases h1 : decide (l[k].1 = id) <;> cases h2 : decide (l[k].2.1 ≤ t) <;> cases h3 : p l[k] <;> simp_all
theorem bestTo_all_n {p : Arv → Bool} {id : ByteArray} {t : Int} {l : List Arv} {k : Nat} (hk : k < l.length) (h : newer (bestTo p id t l[k].2.2.1 l k) l[k] = false) (q : Int) : bestTo p id t q l (k + 1) = bestTo p id t q l k := by
  refine bestTo_no hk ?_
  by_cases hq : q = l[k].2.2.1
  · rw [hq, h, Bool.and_false]
  · unfold okB
    rw [decide_eq_false (p := l[k].2.2.1 = q) (fun e => hq e.symm)]
    simp
theorem bestTo_paper {p : Arv → Bool} {id : ByteArray} {t q : Int} {l : List Arv} {x : Arv} (h : bestTo p id t q l l.length = some x) : x.1 = id ∧ x.2.2.1 = q := by
  have := bestTo_top p id t q l l.length (Nat.le_refl _)
  rw [h] at this
  have := this.1.2
  unfold okB at this
  simp only [Bool.and_eq_true, decide_eq_true_eq] at this
  exact ⟨this.1, this.2.2.2⟩
theorem ptr_ne {w : World} {v : Value} {o : Option Arv} (h : PtrIs w v o) (W : World) : (binOp .neq 88 v (.pointer none)).run Tryz.prog W = .ok (.bool o.isSome) W := by
  rcases h with ⟨rfl, rfl⟩ | ⟨x, b, off, rfl, rfl, _⟩
  · go_simp
  · go_simp
theorem ptr_guard {w : World} {v : Value} {o : Option Arv} (h : PtrIs w v o) (x y : Operand) (W : World) : (eqGuard .neq 88 x y v (.pointer none)).run Tryz.prog W = .ok () W := by
  rcases h with ⟨rfl, rfl⟩ | ⟨x, b, off, rfl, rfl, _⟩
  · go_simp
  · go_simp
set_option maxRecDepth 100000 in
set_option maxHeartbeats 8000000 in
theorem entryR_any (o a f : Int) (s : List Skill) (a3 : Option Addr) (c3 : Nat) (l : List Arv) (la : Option Addr) (cap : Nat) (id : ByteArray) (t : Int) (w : World) (hs : SA w a3 s) (hsl : s.length ≤ 1000000) (hbd : ∀ x ∈ s, 0 ≤ x.2 ∧ x.2 ≤ 10000000) (ha : 0 ≤ a) (ha2 : a ≤ 10000000) (hf : 0 ≤ f) (hf2 : f ≤ 10000000) (hl : SA w la l) (hll : l.length ≤ 100000) (hkd : ∀ x ∈ l, kindB x.2.2.1 = true) :
    Calls Tryz.prog 17 #[callAgg o a f s a3 c3, .slice la l.length cap, .string id, .int .i64 t] w (Gives (entAgg (entR (cntB o a f s) l id t)) w) := by
  have HCn := Lib.hid (fun (p : ByteArray) (t k : Int) (r x : ByteArray) W (h : SA W a3 s) (hk : kindB k = true) => countsOf_any o a f s a3 c3 p t k r x W h hsl hbd ha ha2 hf hf2 hk)
  have HcB := Lib.hid (fun x => (show cntB o a f s x = decide (cntN o a f s x.2.1 x.2.2.1 x.2.2.2.1 = 1) from rfl))
  have Hkd := Lib.hid hkd
  clear hkd
  generalize cntB o a f s = cB at *
  have HE := Lib.hid (show entR cB l id t = entV id (bestTo cB id t 1 l l.length) (bestTo cB id t 2 l l.length) (bestTo cB id t 3 l l.length) from rfl)
  have HP1 := Lib.hid (fun x h => bestTo_paper (p := cB) (id := id) (t := t) (q := 1) (l := l) (x := x) h)
  have HP2 := Lib.hid (fun x h => bestTo_paper (p := cB) (id := id) (t := t) (q := 2) (l := l) (x := x) h)
  have HP3 := Lib.hid (fun x h => bestTo_paper (p := cB) (id := id) (t := t) (q := 3) (l := l) (x := x) h)
  generalize entR cB l id t = en at *
  unfold callAgg at *
  have hC0 := ((Box.new w 28 #[.int .i64 o, .int .i64 a, .int .i64 f, .slice a3 s.length c3]).alloc (.cells #[.string ⟨#[]⟩, .int .i64 0, .string ⟨#[]⟩, .string ⟨#[]⟩, .int .i64 0] 35)).alloc (.cells #[.pointer none, .pointer none, .pointer none, .pointer none] 89)
  have hR0 := (Box.newAt (w.alloc (.cells #[.int .i64 o, .int .i64 a, .int .i64 f, .slice a3 s.length c3] 28)) (w.heap.size + 1) 35 #[.string ⟨#[]⟩, .int .i64 0, .string ⟨#[]⟩, .string ⟨#[]⟩, .int .i64 0] (by simp)).alloc (.cells #[.pointer none, .pointer none, .pointer none, .pointer none] 89)
  have hL0 := Box.newAt ((w.alloc (.cells #[.int .i64 o, .int .i64 a, .int .i64 f, .slice a3 s.length c3] 28)).alloc (.cells #[.string ⟨#[]⟩, .int .i64 0, .string ⟨#[]⟩, .string ⟨#[]⟩, .int .i64 0] 35)) (w.heap.size + 1 + 1) 89 #[.pointer none, .pointer none, .pointer none, .pointer none] (by simp)
  have hb0 : Below w.heap.size w (((w.alloc (.cells #[.int .i64 o, .int .i64 a, .int .i64 f, .slice a3 s.length c3] 28)).alloc (.cells #[.string ⟨#[]⟩, .int .i64 0, .string ⟨#[]⟩, .string ⟨#[]⟩, .int .i64 0] 35)).alloc (.cells #[.pointer none, .pointer none, .pointer none, .pointer none] 89)) := by (repeat' (first | exact Below.refl _ _ | assumption | refine Below.setCell ?_ ?_ _ | refine below_drewN ?_ _ | refine Below.drew ?_ | refine Below.alloc ?_ ?_ _ | (with_reducible refine Below.trans ?_ (Below.mono hb ?_)) | (with_reducible refine Below.trans ?_ (Below.mono hb0 ?_)) | (with_reducible refine Below.trans ?_ (Below.mono hb1 ?_)) | (with_reducible refine Below.trans ?_ (Below.mono hb2 ?_)) | (with_reducible refine Below.trans ?_ (Below.mono hb3 ?_)) | (with_reducible refine Below.trans ?_ (Below.mono hb4 ?_)) | (with_reducible refine Below.trans ?_ (Below.mono hb5 ?_)) | (with_reducible refine Below.trans ?_ (Below.mono hb6 ?_)) | (with_reducible refine Below.trans ?_ (Below.mono hb7 ?_)) | (with_reducible refine Below.trans ?_ (Below.mono hb8 ?_)) | (with_reducible refine Below.trans ?_ (Below.mono hb9 ?_)) | (with_reducible refine Below.trans ?_ (Below.mono hb10 ?_)) | (with_reducible refine Below.trans ?_ (Below.mono hb11 ?_)) | (with_reducible refine Below.trans ?_ (Below.mono hb12 ?_)) | (with_reducible refine Below.trans ?_ (Below.mono hb13 ?_)) | (with_reducible refine Below.trans ?_ (Below.mono hb14 ?_)) | (with_reducible refine Below.trans ?_ (Below.mono hb15 ?_)) | omega | (simp; done) | (simp; omega)))
  go_enter Tryz.func17, Tryz.ntmps17
  go_wp2_with fail
  go_loopg [19] l.length (fun gk i wr => ∃ (k : Nat) (vs : Array Value), i = .int .i64 k ∧ k ≤ l.length ∧ Hid (gk = l.length - k) ∧ Hid (LastW wr (w.heap.size + 1 + 1) vs (fun q => bestTo cB id t q l k)) ∧ Box wr (w.heap.size + 1 + 1) 89 vs ∧ Box wr w.heap.size 28 #[.int .i64 o, .int .i64 a, .int .i64 f, .slice a3 s.length c3] ∧ Box wr (w.heap.size + 1) 35 #[.string ⟨#[]⟩, .int .i64 0, .string ⟨#[]⟩, .string ⟨#[]⟩, .int .i64 0] ∧ Below w.heap.size w wr)
  case atStart => exact ⟨0, _, rfl, by omega, rfl, LastW.nil _ _ (fun q => rfl), hL0, hC0, hR0, hb0⟩
  case round =>
    clear hC0 hR0 hL0 hb0
    obtain ⟨k, vs, rfl, hk, hgk, hLW, hL, hC, hR, hb⟩ := hrel
    have hz := hb.size
    have hLl := hL.lt
    by_cases hlt : k < l.length
    · obtain ⟨b, off, hae, d0, d1, d2, d3, d4⟩ := (hl.below hb).arv hlt
      have Hae := Lib.hid hae
      have Hkx := Lib.hid (Hkd.out l[k] (List.getElem_mem hlt))
      have HBy := Lib.hid (bestTo_all_yes (p := cB) (id := id) (t := t) hlt)
      have HBc := Lib.hid (bestTo_all_c (p := cB) (id := id) (t := t) hlt)
      have HBn := Lib.hid (bestTo_all_n (p := cB) (id := id) (t := t) hlt)
      have hsa := hs.below hb
      rw [hae]
      clear hae
      generalize l[k] = x at *
      obtain ⟨q1, q2⟩ := kindB_of Hkx.out
      obtain ⟨n, hn⟩ : ∃ n : Nat, x.2.2.1 = (n : Int) := ⟨x.2.2.1.toNat, by omega⟩
      obtain ⟨x1, x2, x3, x4, x5⟩ := x
      simp only at d0 d1 d2 d3 d4 hn q1 q2
      subst hn
      have hn1 : n ≤ 3 := by omega
      have hn2 : (0 : Int) ≤ (n : Int) := by omega
      have hn3 : (n : Int) < 4 := by omega
      have hT := Box.new wr 63 #[.string x1, .int .i64 x2, .int .i64 n, .string x4, .string x5]
      have hLa := hL.alloc (.cells #[.string x1, .int .i64 x2, .int .i64 n, .string x4, .string x5] 63)
      have hCa := hC.alloc (.cells #[.string x1, .int .i64 x2, .int .i64 n, .string x4, .string x5] 63)
      have hRa := hR.alloc (.cells #[.string x1, .int .i64 x2, .int .i64 n, .string x4, .string x5] 63)
      have hba : Below w.heap.size w (wr.alloc (.cells #[.string x1, .int .i64 x2, .int .i64 n, .string x4, .string x5] 63)) := by (repeat' (first | exact Below.refl _ _ | assumption | refine Below.setCell ?_ ?_ _ | refine below_drewN ?_ _ | refine Below.drew ?_ | refine Below.alloc ?_ ?_ _ | (with_reducible refine Below.trans ?_ (Below.mono hb ?_)) | (with_reducible refine Below.trans ?_ (Below.mono hb0 ?_)) | (with_reducible refine Below.trans ?_ (Below.mono hb1 ?_)) | (with_reducible refine Below.trans ?_ (Below.mono hb2 ?_)) | (with_reducible refine Below.trans ?_ (Below.mono hb3 ?_)) | (with_reducible refine Below.trans ?_ (Below.mono hb4 ?_)) | (with_reducible refine Below.trans ?_ (Below.mono hb5 ?_)) | (with_reducible refine Below.trans ?_ (Below.mono hb6 ?_)) | (with_reducible refine Below.trans ?_ (Below.mono hb7 ?_)) | (with_reducible refine Below.trans ?_ (Below.mono hb8 ?_)) | (with_reducible refine Below.trans ?_ (Below.mono hb9 ?_)) | (with_reducible refine Below.trans ?_ (Below.mono hb10 ?_)) | (with_reducible refine Below.trans ?_ (Below.mono hb11 ?_)) | (with_reducible refine Below.trans ?_ (Below.mono hb12 ?_)) | (with_reducible refine Below.trans ?_ (Below.mono hb13 ?_)) | (with_reducible refine Below.trans ?_ (Below.mono hb14 ?_)) | (with_reducible refine Below.trans ?_ (Below.mono hb15 ?_)) | omega | (simp; done) | (simp; omega)))
      have HLWa : Hid (LastW (wr.alloc (.cells #[.string x1, .int .i64 x2, .int .i64 n, .string x4, .string x5] 63)) (w.heap.size + 1 + 1) vs (fun q => bestTo cB id t q l k)) := hLW.out.below ((Below.refl _ _).alloc (Nat.le_refl _) _)
      have hsaa := hsa.alloc (.cells #[.string x1, .int .i64 x2, .int .i64 n, .string x4, .string x5] 63)
      have hzW : wr.heap.size < (wr.alloc (.cells #[.string x1, .int .i64 x2, .int .i64 n, .string x4, .string x5] 63)).heap.size := hT.lt
      clear hL hC hR hLW hb hsa
      go_upto_region 5 with (fail)
      clear d0 d1 d2 d3 d4
      generalize wr.alloc (.cells #[.string x1, .int .i64 x2, .int .i64 n, .string x4, .string x5] 63) = Wa at *
      have hT_l := hT.lt; have hT_0 := hT.cell 0; have hT_1 := hT.cell 1; have hT_2 := hT.cell 2; have hT_3 := hT.cell 3; have hT_4 := hT.cell 4; simp at hT_0 hT_1 hT_2 hT_3 hT_4
      by_cases hx1 : x1 = id
      · have hd1 : (x1.toList == id.toList) = true := by rw [hx1]; simp
        by_cases hx2 : x2 ≤ t
        · obtain ⟨u, hu, Pu0, hub⟩ := HLWa.out.2 n (by omega) hn1
          have Pu : PtrIs Wa u (bestTo cB id t n l k) := Pu0
          clear Pu0
          have hlu : Wa.cell? ⟨w.heap.size + 1 + 1, n, none⟩ = some u := by rw [hLa.cell n]; exact hu
          have HCx := Lib.hid (fun W h => HCn.out x1 x2 n x4 x5 W h Hkx.out)
          have HcBx := Lib.hid (HcB.out (x1, x2, (n : Int), x4, x5))
          have hd2 : decide (x2 ≤ t) = true := decide_eq_true hx2
          have Hx1 := Lib.hid hx1
          have Hx2 := Lib.hid hx2
          clear hx1 hx2
          replace HcBx : Hid (cB (x1, x2, (n : Int), x4, x5) = decide (cntN o a f s x2 n x4 = 1)) := HcBx.out
          generalize cntN o a f s x2 n x4 = cn at *
          have hCa_l := hCa.lt; have hCa_0 := hCa.cell 0; have hCa_1 := hCa.cell 1; have hCa_2 := hCa.cell 2; have hCa_3 := hCa.cell 3; simp at hCa_0 hCa_1 hCa_2 hCa_3
          by_cases hcn : cn = 1
          · have HcT : Hid (cB (x1, x2, (n : Int), x4, x5) = true) := by show _ = _; rw [HcBx.out]; exact decide_eq_true hcn
            subst hcn
            cases hbo : bestTo cB id t n l k with
            | none =>
              rw [hbo] at Pu
              obtain rfl := Pu.isNone
              have HF := Lib.hid (HBy.out Hx1.out Hx2.out HcT.out (by show newer (bestTo cB id t (n : Int) l k) _ = true; rw [hbo]; rfl))
              clear HBy HBc HBn hbo Pu hub
              refine wp_region_held_drew (S := (fun wx => wx.cell? ⟨wr.heap.size, 0, none⟩ = some (.string x1) ∧ wx.cell? ⟨wr.heap.size, 1, none⟩ = some (.int .i64 x2) ∧ wx.cell? ⟨wr.heap.size, 2, none⟩ = some (.int .i64 n) ∧ wx.cell? ⟨wr.heap.size, 3, none⟩ = some (.string x4) ∧ wx.cell? ⟨wr.heap.size, 4, none⟩ = some (.string x5) ∧ wx.cell? ⟨w.heap.size, 0, none⟩ = some (.int .i64 o) ∧ wx.cell? ⟨w.heap.size, 1, none⟩ = some (.int .i64 a) ∧ wx.cell? ⟨w.heap.size, 2, none⟩ = some (.int .i64 f) ∧ wx.cell? ⟨w.heap.size, 3, none⟩ = some (.slice a3 s.length c3) ∧ wx.cell? ⟨w.heap.size + 1 + 1, n, none⟩ = some (.pointer none) ∧ Below Wa.heap.size Wa wx)) (by kernel_rfl) ?hS (fun hHeld => ?_)
              case hS => exact ⟨hT_0, hT_1, hT_2, hT_3, hT_4, hCa_0, hCa_1, hCa_2, hCa_3, hlu, (Below.refl _ _).drew⟩
              refine rtake (i := 0) (d := (some 23)) (v := ?_) rfl (by kernel_rfl) (by kernel_rfl) (by kernel_rfl) (by kernel_rfl) (fun _ _ _ h => h) (by kernel_rfl) (by assumption) ?_ ?_
              rotate_left 1
              · (intro wI hSI; (try dsimp only at hSI); go_simp; (try with_reducible rfl))
              simp only [Act.put, List.setIfInBounds_toArray, List.set_cons_zero, List.set_cons_succ]
              refine rtake (i := 1) (d := (some 24)) (v := ?_) rfl (by kernel_rfl) (by kernel_rfl) (by kernel_rfl) (by kernel_rfl) (fun _ _ _ h => h) (by kernel_rfl) (by assumption) ?_ ?_
              rotate_left 1
              · (intro wI hSI; (try dsimp only at hSI); go_simp; (try with_reducible rfl))
              simp only [Act.put, List.setIfInBounds_toArray, List.set_cons_zero, List.set_cons_succ]
              refine rtake (i := 2) (d := (some 25)) (v := ?_) rfl (by kernel_rfl) (by kernel_rfl) (by kernel_rfl) (by kernel_rfl) (fun _ _ _ h => h) (by kernel_rfl) (by assumption) ?_ ?_
              rotate_left 1
              · (intro wI hSI; (try dsimp only at hSI); go_simp; (try with_reducible rfl))
              simp only [Act.put, List.setIfInBounds_toArray, List.set_cons_zero, List.set_cons_succ]
              refine rtake (i := 3) (d := (some 26)) (v := ?_) rfl (by kernel_rfl) (by kernel_rfl) (by kernel_rfl) (by kernel_rfl) (fun _ _ _ h => h) (by kernel_rfl) (by assumption) ?_ ?_
              rotate_left 1
              · (intro wI hSI; (try dsimp only at hSI); go_simp; (try with_reducible rfl))
              simp only [Act.put, List.setIfInBounds_toArray, List.set_cons_zero, List.set_cons_succ]
              refine rtake (i := 4) (d := (some 27)) (v := ?_) rfl (by kernel_rfl) (by kernel_rfl) (by kernel_rfl) (by kernel_rfl) (fun _ _ _ h => h) (by kernel_rfl) (by assumption) ?_ ?_
              rotate_left 1
              · (intro wI hSI; (try dsimp only at hSI); go_simp; (try with_reducible rfl))
              simp only [Act.put, List.setIfInBounds_toArray, List.set_cons_zero, List.set_cons_succ]
              refine rtake (i := 5) (d := (some 28)) (v := ?_) rfl (by kernel_rfl) (by kernel_rfl) (by kernel_rfl) (by kernel_rfl) (fun _ _ _ h => h) (by kernel_rfl) (by assumption) ?_ ?_
              rotate_left 1
              · (intro wI hSI; (try dsimp only at hSI); go_simp; (try with_reducible rfl))
              simp only [Act.put, List.setIfInBounds_toArray, List.set_cons_zero, List.set_cons_succ]
              refine rtake (i := 6) (d := (some 29)) (v := ?_) rfl (by kernel_rfl) (by kernel_rfl) (by kernel_rfl) (by kernel_rfl) (fun _ _ _ h => h) (by kernel_rfl) (by assumption) ?_ ?_
              rotate_left 1
              · (intro wI hSI; (try dsimp only at hSI); go_simp; (try with_reducible rfl))
              simp only [Act.put, List.setIfInBounds_toArray, List.set_cons_zero, List.set_cons_succ]
              refine rtake (i := 7) (d := (some 30)) (v := ?_) rfl (by kernel_rfl) (by kernel_rfl) (by kernel_rfl) (by kernel_rfl) (fun _ _ _ h => h) (by kernel_rfl) (by assumption) ?_ ?_
              rotate_left 1
              · (intro wI hSI; (try dsimp only at hSI); go_simp; (try with_reducible rfl))
              simp only [Act.put, List.setIfInBounds_toArray, List.set_cons_zero, List.set_cons_succ]
              refine rtake (i := 8) (d := (some 31)) (v := ?_) rfl (by kernel_rfl) (by kernel_rfl) (by kernel_rfl) (by kernel_rfl) (fun _ _ _ h => h) (by kernel_rfl) (by assumption) ?_ ?_
              rotate_left 1
              · (intro wI hSI; (try dsimp only at hSI); go_simp; (try with_reducible rfl))
              simp only [Act.put, List.setIfInBounds_toArray, List.set_cons_zero, List.set_cons_succ]
              refine rtake (i := 9) (d := (some 32)) (v := ?_) rfl (by kernel_rfl) (by kernel_rfl) (by kernel_rfl) (by kernel_rfl) (fun _ _ _ h => h) (by kernel_rfl) (by assumption) ?_ ?_
              rotate_left 1
              · (intro wI hSI; (try dsimp only at hSI); go_simp; (try with_reducible rfl))
              simp only [Act.put, List.setIfInBounds_toArray, List.set_cons_zero, List.set_cons_succ]
              refine rtake (i := 10) (d := (some 33)) (v := ?_) rfl (by kernel_rfl) (by kernel_rfl) (by kernel_rfl) (by kernel_rfl) (fun _ _ _ h => h) (by kernel_rfl) (by assumption) ?_ ?_
              rotate_left 1
              · (intro wI hSI; (try dsimp only at hSI); go_simp; (try with_reducible rfl))
              simp only [Act.put, List.setIfInBounds_toArray, List.set_cons_zero, List.set_cons_succ]
              refine rtake (i := 11) (d := (some 34)) (v := ?_) rfl (by kernel_rfl) (by kernel_rfl) (by kernel_rfl) (by kernel_rfl) (fun _ _ _ h => h) (by kernel_rfl) (by assumption) ?_ ?_
              rotate_left 1
              · (intro wI hSI; (try dsimp only at hSI); go_simp; (try with_reducible rfl))
              simp only [Act.put, List.setIfInBounds_toArray, List.set_cons_zero, List.set_cons_succ]
              refine rtake (i := 12) (d := (some 35)) (v := ?_) rfl (by kernel_rfl) (by kernel_rfl) (by kernel_rfl) (by kernel_rfl) (fun _ _ _ h => h) (by kernel_rfl) (by assumption) ?_ ?_
              rotate_left 1
              · (intro wI hSI; (try dsimp only at hSI); go_simp; (try with_reducible rfl))
              simp only [Act.put, List.setIfInBounds_toArray, List.set_cons_zero, List.set_cons_succ]
              refine rcall (i := 13) (d := (some 36)) (by kernel_rfl) rfl (by kernel_rfl) (fun K hK => ?_)
              rw [if_pos (by kernel_rfl)]; go_simp; go_at_call 47; refine (HCx.out _ (hsaa.below hHeld.2.2.2.2.2.2.2.2.2.2)).mono ?_; rintro e wc ⟨rfl, hbc⟩
              refine hK.out _ _ ?hS (fun hHeld => ?_)
              case hS => exact ⟨cell_later hbc hHeld.1, cell_later hbc hHeld.2.1, cell_later hbc hHeld.2.2.1, cell_later hbc hHeld.2.2.2.1, cell_later hbc hHeld.2.2.2.2.1, cell_later hbc hHeld.2.2.2.2.2.1, cell_later hbc hHeld.2.2.2.2.2.2.1, cell_later hbc hHeld.2.2.2.2.2.2.2.1, cell_later hbc hHeld.2.2.2.2.2.2.2.2.1, cell_later hbc hHeld.2.2.2.2.2.2.2.2.2.1, hHeld.2.2.2.2.2.2.2.2.2.2.trans (hbc.mono hHeld.2.2.2.2.2.2.2.2.2.2.size)⟩
              clear hK K
              simp only [Act.put, List.setIfInBounds_toArray, List.set_cons_zero, List.set_cons_succ]
              refine rtake (i := 14) (d := (some 37)) (v := ?_) rfl (by kernel_rfl) (by kernel_rfl) (by kernel_rfl) (by kernel_rfl) (fun _ _ _ h => h) (by kernel_rfl) (by assumption) ?_ ?_
              rotate_left 1
              · (intro wI hSI; (try dsimp only at hSI); go_simp; (try with_reducible rfl))
              simp only [Act.put, List.setIfInBounds_toArray, List.set_cons_zero, List.set_cons_succ]
              refine rtake (i := 15) (d := (some 38)) (v := ?_) rfl (by kernel_rfl) (by kernel_rfl) (by kernel_rfl) (by kernel_rfl) (fun _ _ _ h => h) (by kernel_rfl) (by assumption) ?_ ?_
              rotate_left 1
              · (intro wI hSI; (try dsimp only at hSI); go_simp; (try with_reducible rfl))
              simp only [Act.put, List.setIfInBounds_toArray, List.set_cons_zero, List.set_cons_succ]
              refine rtake (i := 16) (d := (some 39)) (v := ?_) rfl (by kernel_rfl) (by kernel_rfl) (by kernel_rfl) (by kernel_rfl) (fun _ _ _ h => h) (by kernel_rfl) (by assumption) ?_ ?_
              rotate_left 1
              · (intro wI hSI; (try dsimp only at hSI); go_simp; (try with_reducible rfl))
              simp only [Act.put, List.setIfInBounds_toArray, List.set_cons_zero, List.set_cons_succ]
              refine rtake (i := 17) (d := (some 40)) (v := ?_) rfl (by kernel_rfl) (by kernel_rfl) (by kernel_rfl) (by kernel_rfl) (fun _ _ _ h => h) (by kernel_rfl) (by assumption) ?_ ?_
              rotate_left 1
              · (intro wI hSI; (try dsimp only at hSI); go_simp; (try with_reducible rfl))
              simp only [Act.put, List.setIfInBounds_toArray, List.set_cons_zero, List.set_cons_succ]
              refine rtake (i := 18) (d := (some 41)) (v := ?_) rfl (by kernel_rfl) (by kernel_rfl) (by kernel_rfl) (by kernel_rfl) (fun _ _ _ h => h) (by kernel_rfl) (by assumption) ?_ ?_
              rotate_left 1
              · (intro wI hSI; (try dsimp only at hSI); go_simp; (try with_reducible rfl))
              simp only [Act.put, List.setIfInBounds_toArray, List.set_cons_zero, List.set_cons_succ]
              refine rtake (i := 19) (d := (some 42)) (v := ?_) rfl (by kernel_rfl) (by kernel_rfl) (by kernel_rfl) (by kernel_rfl) (fun _ _ _ h => h) (by kernel_rfl) (by assumption) ?_ ?_
              rotate_left 1
              · (intro wI hSI; (try dsimp only at hSI); go_simp; (try with_reducible rfl))
              simp only [Act.put, List.setIfInBounds_toArray, List.set_cons_zero, List.set_cons_succ]
              refine rtake (i := 20) (d := (some 43)) (v := ?_) rfl (by kernel_rfl) (by kernel_rfl) (by kernel_rfl) (by kernel_rfl) (fun _ _ _ h => h) (by kernel_rfl) (by assumption) ?_ ?_
              rotate_left 1
              · (intro wI hSI; (try dsimp only at hSI); go_simp; (try with_reducible rfl))
              simp only [Act.put, List.setIfInBounds_toArray, List.set_cons_zero, List.set_cons_succ]
              refine rtake (i := 21) (d := (some 44)) (v := ?_) rfl (by kernel_rfl) (by kernel_rfl) (by kernel_rfl) (by kernel_rfl) (fun _ _ _ h => h) (by kernel_rfl) (by assumption) ?_ ?_
              rotate_left 1
              · (intro wI hSI; (try dsimp only at hSI); go_simp; (try with_reducible rfl))
              simp only [Act.put, List.setIfInBounds_toArray, List.set_cons_zero, List.set_cons_succ]
              refine rtake (i := 22) (d := (some 45)) (v := ?_) rfl (by kernel_rfl) (by kernel_rfl) (by kernel_rfl) (by kernel_rfl) (fun _ _ _ h => h) (by kernel_rfl) (by assumption) ?_ ?_
              rotate_left 1
              · (intro wI hSI; (try dsimp only at hSI); go_simp; (try with_reducible rfl))
              simp only [Act.put, List.setIfInBounds_toArray, List.set_cons_zero, List.set_cons_succ]
              refine rskip (i := 23) (d := (some 46)) rfl (by kernel_rfl) (by kernel_rfl) (by kernel_rfl) (by kernel_rfl) (fun _ _ _ h => h) (by kernel_rfl) (by assumption) ?_
              simp only [Act.put, List.setIfInBounds_toArray, List.set_cons_zero, List.set_cons_succ]
              refine rskip (i := 24) (d := (some 47)) rfl (by kernel_rfl) (by kernel_rfl) (by kernel_rfl) (by kernel_rfl) (fun _ _ _ h => h) (by kernel_rfl) (by assumption) ?_
              simp only [Act.put, List.setIfInBounds_toArray, List.set_cons_zero, List.set_cons_succ]
              refine rskip (i := 25) (d := (some 48)) rfl (by kernel_rfl) (by kernel_rfl) (by kernel_rfl) (by kernel_rfl) (fun _ _ _ h => h) (by kernel_rfl) (by assumption) ?_
              simp only [Act.put, List.setIfInBounds_toArray, List.set_cons_zero, List.set_cons_succ]
              refine rskip (i := 26) (d := (some 49)) rfl (by kernel_rfl) (by kernel_rfl) (by kernel_rfl) (by kernel_rfl) (fun _ _ _ h => h) (by kernel_rfl) (by assumption) ?_
              simp only [Act.put, List.setIfInBounds_toArray, List.set_cons_zero, List.set_cons_succ]
              refine rskip (i := 27) (d := (some 50)) rfl (by kernel_rfl) (by kernel_rfl) (by kernel_rfl) (by kernel_rfl) (fun _ _ _ h => h) (by kernel_rfl) (by assumption) ?_
              simp only [Act.put, List.setIfInBounds_toArray, List.set_cons_zero, List.set_cons_succ]
              refine rskip (i := 28) (d := (some 51)) rfl (by kernel_rfl) (by kernel_rfl) (by kernel_rfl) (by kernel_rfl) (fun _ _ _ h => h) (by kernel_rfl) (by assumption) ?_
              simp only [Act.put, List.setIfInBounds_toArray, List.set_cons_zero, List.set_cons_succ]
              refine rskip (i := 29) (d := (some 52)) rfl (by kernel_rfl) (by kernel_rfl) (by kernel_rfl) (by kernel_rfl) (fun _ _ _ h => h) (by kernel_rfl) (by assumption) ?_
              simp only [Act.put, List.setIfInBounds_toArray, List.set_cons_zero, List.set_cons_succ]
              refine rcall (i := 30) (d := (some 53)) (by kernel_rfl) rfl (by kernel_rfl) (fun K hK => ?_)
              rw [if_neg (by rw [show Region.wanted _ _ = false by kernel_rfl]; decide)]
              refine hK.out _ _ ?hS (fun hHeld => ?_)
              case hS => exact hHeld
              clear hK K
              simp only [Act.put, List.setIfInBounds_toArray, List.set_cons_zero, List.set_cons_succ]
              refine rskip (i := 31) (d := (some 54)) rfl (by kernel_rfl) (by kernel_rfl) (by kernel_rfl) (by kernel_rfl) (fun _ _ _ h => h) (by kernel_rfl) (by assumption) ?_
              simp only [Act.put, List.setIfInBounds_toArray, List.set_cons_zero, List.set_cons_succ]
              refine rtake (i := 32) (d := (some 55)) (v := ?_) rfl (by kernel_rfl) (by kernel_rfl) (by kernel_rfl) (by kernel_rfl) (fun _ _ _ h => h) (by kernel_rfl) (by assumption) ?_ ?_
              rotate_left 1
              · (intro wI hSI; (try dsimp only at hSI); go_simp; (try with_reducible rfl))
              simp only [Act.put, List.setIfInBounds_toArray, List.set_cons_zero, List.set_cons_succ]
              refine rtake (i := 33) (d := (some 56)) (v := ?_) rfl (by kernel_rfl) (by kernel_rfl) (by kernel_rfl) (by kernel_rfl) (fun _ _ _ h => h) (by kernel_rfl) (by assumption) ?_ ?_
              rotate_left 1
              · (intro wI hSI; (try dsimp only at hSI); go_simp; (try with_reducible rfl))
              simp only [Act.put, List.setIfInBounds_toArray, List.set_cons_zero, List.set_cons_succ]
              refine wpAnyH_done (by kernel_rfl) ?_ _
              have hbZ := hHeld.2.2.2.2.2.2.2.2.2.2
              have hT8 := hT.below hbZ
              have hL8 := hLa.below hbZ
              have hab : w.heap.size + 1 + 1 < wr.heap.size := by omega
              have hL9 := hL8.set n (.pointer (some ⟨wr.heap.size, 0, none⟩))
              have hC9 := (hCa.below hbZ).setOther (p := ⟨w.heap.size + 1 + 1, n, none⟩) (by show w.heap.size + 1 + 1 ≠ w.heap.size; omega) (.pointer (some ⟨wr.heap.size, 0, none⟩))
              have hR9 := (hRa.below hbZ).setOther (p := ⟨w.heap.size + 1 + 1, n, none⟩) (by show w.heap.size + 1 + 1 ≠ w.heap.size + 1; omega) (.pointer (some ⟨wr.heap.size, 0, none⟩))
              have hb9 : Below w.heap.size w (wc.setCell ⟨w.heap.size + 1 + 1, n, none⟩ (.pointer (some ⟨wr.heap.size, 0, none⟩))) := (below_next hba hbZ).setCell (by show w.heap.size ≤ w.heap.size + 1 + 1; omega) _
              have HLW9 : Hid (LastW (wc.setCell ⟨w.heap.size + 1 + 1, n, none⟩ (.pointer (some ⟨wr.heap.size, 0, none⟩))) (w.heap.size + 1 + 1) (vs.setIfInBounds n (.pointer (some ⟨wr.heap.size, 0, none⟩))) (fun q => bestTo cB id t q l (k + 1))) := (HLWa.out.below hbZ).put (x := (x1, x2, (n : Int), x4, x5)) hn1 hT8 hab (fun q => HF.out q)
              have hfr := hL8.frozen n
              obtain ⟨cl, hcl⟩ : ∃ cl, (wc).cell? ⟨w.heap.size + 1 + 1, n, none⟩ = some cl := by
                rw [hL8.cell n]
                exact ⟨_, Array.getElem?_eq_getElem (by have := HLWa.out.1; omega)⟩
              clear hbZ hHeld hLa hCa hRa hba HLWa HF hT hT_l hT_0 hT_1 hT_2 hT_3 hT_4 hCa_l hCa_0 hCa_1 hCa_2 hCa_3 hlu hL8
              have hT8_l := hT8.lt; have hT8_0 := hT8.cell 0; have hT8_1 := hT8.cell 1; have hT8_2 := hT8.cell 2; have hT8_3 := hT8.cell 3; have hT8_4 := hT8.cell 4; simp at hT8_0 hT8_1 hT8_2 hT8_3 hT8_4
              go_wp2_with fail
              rw [← Hae.out]
              go_roundg (l.length - (k + 1))
              case measure => have := hgk.out; omega
              case rel => exact ⟨k + 1, _, by go_num, by omega, rfl, HLW9, by first | exact hL9 | exact hL9.drew | exact hL9.drewN _, by first | exact hC9 | exact hC9.drew | exact hC9.drewN _, by first | exact hR9 | exact hR9.drew | exact hR9.drewN _, by first | exact hb9 | exact hb9.drew | (repeat' (first | exact Below.refl _ _ | assumption | refine Below.setCell ?_ ?_ _ | refine below_drewN ?_ _ | refine Below.drew ?_ | refine Below.alloc ?_ ?_ _ | (with_reducible refine Below.trans ?_ (Below.mono hb ?_)) | (with_reducible refine Below.trans ?_ (Below.mono hb0 ?_)) | (with_reducible refine Below.trans ?_ (Below.mono hb1 ?_)) | (with_reducible refine Below.trans ?_ (Below.mono hb2 ?_)) | (with_reducible refine Below.trans ?_ (Below.mono hb3 ?_)) | (with_reducible refine Below.trans ?_ (Below.mono hb4 ?_)) | (with_reducible refine Below.trans ?_ (Below.mono hb5 ?_)) | (with_reducible refine Below.trans ?_ (Below.mono hb6 ?_)) | (with_reducible refine Below.trans ?_ (Below.mono hb7 ?_)) | (with_reducible refine Below.trans ?_ (Below.mono hb8 ?_)) | (with_reducible refine Below.trans ?_ (Below.mono hb9 ?_)) | (with_reducible refine Below.trans ?_ (Below.mono hb10 ?_)) | (with_reducible refine Below.trans ?_ (Below.mono hb11 ?_)) | (with_reducible refine Below.trans ?_ (Below.mono hb12 ?_)) | (with_reducible refine Below.trans ?_ (Below.mono hb13 ?_)) | (with_reducible refine Below.trans ?_ (Below.mono hb14 ?_)) | (with_reducible refine Below.trans ?_ (Below.mono hb15 ?_)) | omega | (simp; done) | (simp; omega)))⟩
            | some y =>
              rw [hbo] at Pu
              have HNy : Hid (newer (bestTo cB id t (n : Int) l k) (x1, x2, (n : Int), x4, x5) = decide (0 < cmpO (x1, x2, (n : Int), x4, x5) y)) := by show _ = _; rw [hbo]; rfl
              obtain ⟨bp, op, rfl, p0, p1, p2, p3, p4⟩ := Pu.isSome
              have HOr := Lib.hid (fun W => orderA_any (x1, x2, (n : Int), x4, x5) y W)
              clear hbo hub
              generalize cmpO (x1, x2, (n : Int), x4, x5) y = cv at *
              refine wp_region_held_drew (S := (fun wx => wx.cell? ⟨wr.heap.size, 0, none⟩ = some (.string x1) ∧ wx.cell? ⟨wr.heap.size, 1, none⟩ = some (.int .i64 x2) ∧ wx.cell? ⟨wr.heap.size, 2, none⟩ = some (.int .i64 n) ∧ wx.cell? ⟨wr.heap.size, 3, none⟩ = some (.string x4) ∧ wx.cell? ⟨wr.heap.size, 4, none⟩ = some (.string x5) ∧ wx.cell? ⟨w.heap.size, 0, none⟩ = some (.int .i64 o) ∧ wx.cell? ⟨w.heap.size, 1, none⟩ = some (.int .i64 a) ∧ wx.cell? ⟨w.heap.size, 2, none⟩ = some (.int .i64 f) ∧ wx.cell? ⟨w.heap.size, 3, none⟩ = some (.slice a3 s.length c3) ∧ wx.cell? ⟨w.heap.size + 1 + 1, n, none⟩ = some (.pointer (some ⟨bp, op, none⟩)) ∧ wx.cell? ⟨bp, op, none⟩ = some (.string y.1) ∧ wx.cell? ⟨bp, op + 1, none⟩ = some (.int .i64 y.2.1) ∧ wx.cell? ⟨bp, op + 2, none⟩ = some (.int .i64 y.2.2.1) ∧ wx.cell? ⟨bp, op + 3, none⟩ = some (.string y.2.2.2.1) ∧ wx.cell? ⟨bp, op + 4, none⟩ = some (.string y.2.2.2.2) ∧ Below Wa.heap.size Wa wx)) (by kernel_rfl) ?hS (fun hHeld => ?_)
              case hS => exact ⟨hT_0, hT_1, hT_2, hT_3, hT_4, hCa_0, hCa_1, hCa_2, hCa_3, hlu, p0, p1, p2, p3, p4, (Below.refl _ _).drew⟩
              refine rtake (i := 0) (d := (some 23)) (v := ?_) rfl (by kernel_rfl) (by kernel_rfl) (by kernel_rfl) (by kernel_rfl) (fun _ _ _ h => h) (by kernel_rfl) (by assumption) ?_ ?_
              rotate_left 1
              · (intro wI hSI; (try dsimp only at hSI); go_simp; (try with_reducible rfl))
              simp only [Act.put, List.setIfInBounds_toArray, List.set_cons_zero, List.set_cons_succ]
              refine rtake (i := 1) (d := (some 24)) (v := ?_) rfl (by kernel_rfl) (by kernel_rfl) (by kernel_rfl) (by kernel_rfl) (fun _ _ _ h => h) (by kernel_rfl) (by assumption) ?_ ?_
              rotate_left 1
              · (intro wI hSI; (try dsimp only at hSI); go_simp; (try with_reducible rfl))
              simp only [Act.put, List.setIfInBounds_toArray, List.set_cons_zero, List.set_cons_succ]
              refine rtake (i := 2) (d := (some 25)) (v := ?_) rfl (by kernel_rfl) (by kernel_rfl) (by kernel_rfl) (by kernel_rfl) (fun _ _ _ h => h) (by kernel_rfl) (by assumption) ?_ ?_
              rotate_left 1
              · (intro wI hSI; (try dsimp only at hSI); go_simp; (try with_reducible rfl))
              simp only [Act.put, List.setIfInBounds_toArray, List.set_cons_zero, List.set_cons_succ]
              refine rtake (i := 3) (d := (some 26)) (v := ?_) rfl (by kernel_rfl) (by kernel_rfl) (by kernel_rfl) (by kernel_rfl) (fun _ _ _ h => h) (by kernel_rfl) (by assumption) ?_ ?_
              rotate_left 1
              · (intro wI hSI; (try dsimp only at hSI); go_simp; (try with_reducible rfl))
              simp only [Act.put, List.setIfInBounds_toArray, List.set_cons_zero, List.set_cons_succ]
              refine rtake (i := 4) (d := (some 27)) (v := ?_) rfl (by kernel_rfl) (by kernel_rfl) (by kernel_rfl) (by kernel_rfl) (fun _ _ _ h => h) (by kernel_rfl) (by assumption) ?_ ?_
              rotate_left 1
              · (intro wI hSI; (try dsimp only at hSI); go_simp; (try with_reducible rfl))
              simp only [Act.put, List.setIfInBounds_toArray, List.set_cons_zero, List.set_cons_succ]
              refine rtake (i := 5) (d := (some 28)) (v := ?_) rfl (by kernel_rfl) (by kernel_rfl) (by kernel_rfl) (by kernel_rfl) (fun _ _ _ h => h) (by kernel_rfl) (by assumption) ?_ ?_
              rotate_left 1
              · (intro wI hSI; (try dsimp only at hSI); go_simp; (try with_reducible rfl))
              simp only [Act.put, List.setIfInBounds_toArray, List.set_cons_zero, List.set_cons_succ]
              refine rtake (i := 6) (d := (some 29)) (v := ?_) rfl (by kernel_rfl) (by kernel_rfl) (by kernel_rfl) (by kernel_rfl) (fun _ _ _ h => h) (by kernel_rfl) (by assumption) ?_ ?_
              rotate_left 1
              · (intro wI hSI; (try dsimp only at hSI); go_simp; (try with_reducible rfl))
              simp only [Act.put, List.setIfInBounds_toArray, List.set_cons_zero, List.set_cons_succ]
              refine rtake (i := 7) (d := (some 30)) (v := ?_) rfl (by kernel_rfl) (by kernel_rfl) (by kernel_rfl) (by kernel_rfl) (fun _ _ _ h => h) (by kernel_rfl) (by assumption) ?_ ?_
              rotate_left 1
              · (intro wI hSI; (try dsimp only at hSI); go_simp; (try with_reducible rfl))
              simp only [Act.put, List.setIfInBounds_toArray, List.set_cons_zero, List.set_cons_succ]
              refine rtake (i := 8) (d := (some 31)) (v := ?_) rfl (by kernel_rfl) (by kernel_rfl) (by kernel_rfl) (by kernel_rfl) (fun _ _ _ h => h) (by kernel_rfl) (by assumption) ?_ ?_
              rotate_left 1
              · (intro wI hSI; (try dsimp only at hSI); go_simp; (try with_reducible rfl))
              simp only [Act.put, List.setIfInBounds_toArray, List.set_cons_zero, List.set_cons_succ]
              refine rtake (i := 9) (d := (some 32)) (v := ?_) rfl (by kernel_rfl) (by kernel_rfl) (by kernel_rfl) (by kernel_rfl) (fun _ _ _ h => h) (by kernel_rfl) (by assumption) ?_ ?_
              rotate_left 1
              · (intro wI hSI; (try dsimp only at hSI); go_simp; (try with_reducible rfl))
              simp only [Act.put, List.setIfInBounds_toArray, List.set_cons_zero, List.set_cons_succ]
              refine rtake (i := 10) (d := (some 33)) (v := ?_) rfl (by kernel_rfl) (by kernel_rfl) (by kernel_rfl) (by kernel_rfl) (fun _ _ _ h => h) (by kernel_rfl) (by assumption) ?_ ?_
              rotate_left 1
              · (intro wI hSI; (try dsimp only at hSI); go_simp; (try with_reducible rfl))
              simp only [Act.put, List.setIfInBounds_toArray, List.set_cons_zero, List.set_cons_succ]
              refine rtake (i := 11) (d := (some 34)) (v := ?_) rfl (by kernel_rfl) (by kernel_rfl) (by kernel_rfl) (by kernel_rfl) (fun _ _ _ h => h) (by kernel_rfl) (by assumption) ?_ ?_
              rotate_left 1
              · (intro wI hSI; (try dsimp only at hSI); go_simp; (try with_reducible rfl))
              simp only [Act.put, List.setIfInBounds_toArray, List.set_cons_zero, List.set_cons_succ]
              refine rtake (i := 12) (d := (some 35)) (v := ?_) rfl (by kernel_rfl) (by kernel_rfl) (by kernel_rfl) (by kernel_rfl) (fun _ _ _ h => h) (by kernel_rfl) (by assumption) ?_ ?_
              rotate_left 1
              · (intro wI hSI; (try dsimp only at hSI); go_simp; (try with_reducible rfl))
              simp only [Act.put, List.setIfInBounds_toArray, List.set_cons_zero, List.set_cons_succ]
              refine rcall (i := 13) (d := (some 36)) (by kernel_rfl) rfl (by kernel_rfl) (fun K hK => ?_)
              rw [if_pos (by kernel_rfl)]; go_simp; go_at_call 47; refine (HCx.out _ (hsaa.below hHeld.2.2.2.2.2.2.2.2.2.2.2.2.2.2.2)).mono ?_; rintro e wc ⟨rfl, hbc⟩
              refine hK.out _ _ ?hS (fun hHeld => ?_)
              case hS => exact ⟨cell_later hbc hHeld.1, cell_later hbc hHeld.2.1, cell_later hbc hHeld.2.2.1, cell_later hbc hHeld.2.2.2.1, cell_later hbc hHeld.2.2.2.2.1, cell_later hbc hHeld.2.2.2.2.2.1, cell_later hbc hHeld.2.2.2.2.2.2.1, cell_later hbc hHeld.2.2.2.2.2.2.2.1, cell_later hbc hHeld.2.2.2.2.2.2.2.2.1, cell_later hbc hHeld.2.2.2.2.2.2.2.2.2.1, cell_later hbc hHeld.2.2.2.2.2.2.2.2.2.2.1, cell_later hbc hHeld.2.2.2.2.2.2.2.2.2.2.2.1, cell_later hbc hHeld.2.2.2.2.2.2.2.2.2.2.2.2.1, cell_later hbc hHeld.2.2.2.2.2.2.2.2.2.2.2.2.2.1, cell_later hbc hHeld.2.2.2.2.2.2.2.2.2.2.2.2.2.2.1, hHeld.2.2.2.2.2.2.2.2.2.2.2.2.2.2.2.trans (hbc.mono hHeld.2.2.2.2.2.2.2.2.2.2.2.2.2.2.2.size)⟩
              clear hK K
              simp only [Act.put, List.setIfInBounds_toArray, List.set_cons_zero, List.set_cons_succ]
              refine rtake (i := 14) (d := (some 37)) (v := ?_) rfl (by kernel_rfl) (by kernel_rfl) (by kernel_rfl) (by kernel_rfl) (fun _ _ _ h => h) (by kernel_rfl) (by assumption) ?_ ?_
              rotate_left 1
              · (intro wI hSI; (try dsimp only at hSI); go_simp; (try with_reducible rfl))
              simp only [Act.put, List.setIfInBounds_toArray, List.set_cons_zero, List.set_cons_succ]
              refine rtake (i := 15) (d := (some 38)) (v := ?_) rfl (by kernel_rfl) (by kernel_rfl) (by kernel_rfl) (by kernel_rfl) (fun _ _ _ h => h) (by kernel_rfl) (by assumption) ?_ ?_
              rotate_left 1
              · (intro wI hSI; (try dsimp only at hSI); go_simp; (try with_reducible rfl))
              simp only [Act.put, List.setIfInBounds_toArray, List.set_cons_zero, List.set_cons_succ]
              refine rtake (i := 16) (d := (some 39)) (v := ?_) rfl (by kernel_rfl) (by kernel_rfl) (by kernel_rfl) (by kernel_rfl) (fun _ _ _ h => h) (by kernel_rfl) (by assumption) ?_ ?_
              rotate_left 1
              · (intro wI hSI; (try dsimp only at hSI); go_simp; (try with_reducible rfl))
              simp only [Act.put, List.setIfInBounds_toArray, List.set_cons_zero, List.set_cons_succ]
              refine rtake (i := 17) (d := (some 40)) (v := ?_) rfl (by kernel_rfl) (by kernel_rfl) (by kernel_rfl) (by kernel_rfl) (fun _ _ _ h => h) (by kernel_rfl) (by assumption) ?_ ?_
              rotate_left 1
              · (intro wI hSI; (try dsimp only at hSI); go_simp; (try with_reducible rfl))
              simp only [Act.put, List.setIfInBounds_toArray, List.set_cons_zero, List.set_cons_succ]
              refine rtake (i := 18) (d := (some 41)) (v := ?_) rfl (by kernel_rfl) (by kernel_rfl) (by kernel_rfl) (by kernel_rfl) (fun _ _ _ h => h) (by kernel_rfl) (by assumption) ?_ ?_
              rotate_left 1
              · (intro wI hSI; (try dsimp only at hSI); go_simp; (try with_reducible rfl))
              simp only [Act.put, List.setIfInBounds_toArray, List.set_cons_zero, List.set_cons_succ]
              refine rtake (i := 19) (d := (some 42)) (v := ?_) rfl (by kernel_rfl) (by kernel_rfl) (by kernel_rfl) (by kernel_rfl) (fun _ _ _ h => h) (by kernel_rfl) (by assumption) ?_ ?_
              rotate_left 1
              · (intro wI hSI; (try dsimp only at hSI); go_simp; (try with_reducible rfl))
              simp only [Act.put, List.setIfInBounds_toArray, List.set_cons_zero, List.set_cons_succ]
              refine rtake (i := 20) (d := (some 43)) (v := ?_) rfl (by kernel_rfl) (by kernel_rfl) (by kernel_rfl) (by kernel_rfl) (fun _ _ _ h => h) (by kernel_rfl) (by assumption) ?_ ?_
              rotate_left 1
              · (intro wI hSI; (try dsimp only at hSI); go_simp; (try with_reducible rfl))
              simp only [Act.put, List.setIfInBounds_toArray, List.set_cons_zero, List.set_cons_succ]
              refine rtake (i := 21) (d := (some 44)) (v := ?_) rfl (by kernel_rfl) (by kernel_rfl) (by kernel_rfl) (by kernel_rfl) (fun _ _ _ h => h) (by kernel_rfl) (by assumption) ?_ ?_
              rotate_left 1
              · (intro wI hSI; (try dsimp only at hSI); go_simp; (try with_reducible rfl))
              simp only [Act.put, List.setIfInBounds_toArray, List.set_cons_zero, List.set_cons_succ]
              refine rtake (i := 22) (d := (some 45)) (v := ?_) rfl (by kernel_rfl) (by kernel_rfl) (by kernel_rfl) (by kernel_rfl) (fun _ _ _ h => h) (by kernel_rfl) (by assumption) ?_ ?_
              rotate_left 1
              · (intro wI hSI; (try dsimp only at hSI); go_simp; (try with_reducible rfl))
              simp only [Act.put, List.setIfInBounds_toArray, List.set_cons_zero, List.set_cons_succ]
              refine rtake (i := 23) (d := (some 46)) (v := ?_) rfl (by kernel_rfl) (by kernel_rfl) (by kernel_rfl) (by kernel_rfl) (fun _ _ _ h => h) (by kernel_rfl) (by assumption) ?_ ?_
              rotate_left 1
              · (intro wI hSI; (try dsimp only at hSI); go_simp; (try with_reducible rfl))
              simp only [Act.put, List.setIfInBounds_toArray, List.set_cons_zero, List.set_cons_succ]
              refine rtake (i := 24) (d := (some 47)) (v := ?_) rfl (by kernel_rfl) (by kernel_rfl) (by kernel_rfl) (by kernel_rfl) (fun _ _ _ h => h) (by kernel_rfl) (by assumption) ?_ ?_
              rotate_left 1
              · (intro wI hSI; (try dsimp only at hSI); go_simp; (try with_reducible rfl))
              simp only [Act.put, List.setIfInBounds_toArray, List.set_cons_zero, List.set_cons_succ]
              refine rtake (i := 25) (d := (some 48)) (v := ?_) rfl (by kernel_rfl) (by kernel_rfl) (by kernel_rfl) (by kernel_rfl) (fun _ _ _ h => h) (by kernel_rfl) (by assumption) ?_ ?_
              rotate_left 1
              · (intro wI hSI; (try dsimp only at hSI); go_simp; (try with_reducible rfl))
              simp only [Act.put, List.setIfInBounds_toArray, List.set_cons_zero, List.set_cons_succ]
              refine rtake (i := 26) (d := (some 49)) (v := ?_) rfl (by kernel_rfl) (by kernel_rfl) (by kernel_rfl) (by kernel_rfl) (fun _ _ _ h => h) (by kernel_rfl) (by assumption) ?_ ?_
              rotate_left 1
              · (intro wI hSI; (try dsimp only at hSI); go_simp; (try with_reducible rfl))
              simp only [Act.put, List.setIfInBounds_toArray, List.set_cons_zero, List.set_cons_succ]
              refine rtake (i := 27) (d := (some 50)) (v := ?_) rfl (by kernel_rfl) (by kernel_rfl) (by kernel_rfl) (by kernel_rfl) (fun _ _ _ h => h) (by kernel_rfl) (by assumption) ?_ ?_
              rotate_left 1
              · (intro wI hSI; (try dsimp only at hSI); go_simp; (try with_reducible rfl))
              simp only [Act.put, List.setIfInBounds_toArray, List.set_cons_zero, List.set_cons_succ]
              refine rtake (i := 28) (d := (some 51)) (v := ?_) rfl (by kernel_rfl) (by kernel_rfl) (by kernel_rfl) (by kernel_rfl) (fun _ _ _ h => h) (by kernel_rfl) (by assumption) ?_ ?_
              rotate_left 1
              · (intro wI hSI; (try dsimp only at hSI); go_simp; (try with_reducible rfl))
              simp only [Act.put, List.setIfInBounds_toArray, List.set_cons_zero, List.set_cons_succ]
              refine rtake (i := 29) (d := (some 52)) (v := ?_) rfl (by kernel_rfl) (by kernel_rfl) (by kernel_rfl) (by kernel_rfl) (fun _ _ _ h => h) (by kernel_rfl) (by assumption) ?_ ?_
              rotate_left 1
              · (intro wI hSI; (try dsimp only at hSI); go_simp; (try with_reducible rfl))
              simp only [Act.put, List.setIfInBounds_toArray, List.set_cons_zero, List.set_cons_succ]
              refine rcall (i := 30) (d := (some 53)) (by kernel_rfl) rfl (by kernel_rfl) (fun K hK => ?_)
              rw [if_pos (by kernel_rfl)]; go_simp; go_at_call 48; refine (HOr.out _).mono ?_; rintro e wd ⟨rfl, hbd2, -⟩
              refine hK.out _ _ ?hS (fun hHeld => ?_)
              case hS => exact ⟨cell_later hbd2 hHeld.1, cell_later hbd2 hHeld.2.1, cell_later hbd2 hHeld.2.2.1, cell_later hbd2 hHeld.2.2.2.1, cell_later hbd2 hHeld.2.2.2.2.1, cell_later hbd2 hHeld.2.2.2.2.2.1, cell_later hbd2 hHeld.2.2.2.2.2.2.1, cell_later hbd2 hHeld.2.2.2.2.2.2.2.1, cell_later hbd2 hHeld.2.2.2.2.2.2.2.2.1, cell_later hbd2 hHeld.2.2.2.2.2.2.2.2.2.1, cell_later hbd2 hHeld.2.2.2.2.2.2.2.2.2.2.1, cell_later hbd2 hHeld.2.2.2.2.2.2.2.2.2.2.2.1, cell_later hbd2 hHeld.2.2.2.2.2.2.2.2.2.2.2.2.1, cell_later hbd2 hHeld.2.2.2.2.2.2.2.2.2.2.2.2.2.1, cell_later hbd2 hHeld.2.2.2.2.2.2.2.2.2.2.2.2.2.2.1, hHeld.2.2.2.2.2.2.2.2.2.2.2.2.2.2.2.trans (hbd2.mono hHeld.2.2.2.2.2.2.2.2.2.2.2.2.2.2.2.size)⟩
              clear hK K
              simp only [Act.put, List.setIfInBounds_toArray, List.set_cons_zero, List.set_cons_succ]
              refine rtake (i := 31) (d := (some 54)) (v := ?_) rfl (by kernel_rfl) (by kernel_rfl) (by kernel_rfl) (by kernel_rfl) (fun _ _ _ h => h) (by kernel_rfl) (by assumption) ?_ ?_
              rotate_left 1
              · (intro wI hSI; (try dsimp only at hSI); go_simp; (try with_reducible rfl))
              simp only [Act.put, List.setIfInBounds_toArray, List.set_cons_zero, List.set_cons_succ]
              refine rtake (i := 32) (d := (some 55)) (v := ?_) rfl (by kernel_rfl) (by kernel_rfl) (by kernel_rfl) (by kernel_rfl) (fun _ _ _ h => h) (by kernel_rfl) (by assumption) ?_ ?_
              rotate_left 1
              · (intro wI hSI; (try dsimp only at hSI); go_simp; (try with_reducible rfl))
              simp only [Act.put, List.setIfInBounds_toArray, List.set_cons_zero, List.set_cons_succ]
              refine rtake (i := 33) (d := (some 56)) (v := ?_) rfl (by kernel_rfl) (by kernel_rfl) (by kernel_rfl) (by kernel_rfl) (fun _ _ _ h => h) (by kernel_rfl) (by assumption) ?_ ?_
              rotate_left 1
              · (intro wI hSI; (try dsimp only at hSI); go_simp; (try with_reducible rfl))
              simp only [Act.put, List.setIfInBounds_toArray, List.set_cons_zero, List.set_cons_succ]
              refine wpAnyH_done (by kernel_rfl) ?_ _
              have hbZ := hHeld.2.2.2.2.2.2.2.2.2.2.2.2.2.2.2
              by_cases hcv : 0 < cv
              · have HF := Lib.hid (HBy.out Hx1.out Hx2.out HcT.out (by show newer (bestTo cB id t (n : Int) l k) _ = true; rw [HNy.out]; exact decide_eq_true hcv))
                clear HBy HBc HBn HNy Pu p0 p1 p2 p3 p4
                have hT8 := hT.below hbZ
                have hL8 := hLa.below hbZ
                have hab : w.heap.size + 1 + 1 < wr.heap.size := by omega
                have hL9 := hL8.set n (.pointer (some ⟨wr.heap.size, 0, none⟩))
                have hC9 := (hCa.below hbZ).setOther (p := ⟨w.heap.size + 1 + 1, n, none⟩) (by show w.heap.size + 1 + 1 ≠ w.heap.size; omega) (.pointer (some ⟨wr.heap.size, 0, none⟩))
                have hR9 := (hRa.below hbZ).setOther (p := ⟨w.heap.size + 1 + 1, n, none⟩) (by show w.heap.size + 1 + 1 ≠ w.heap.size + 1; omega) (.pointer (some ⟨wr.heap.size, 0, none⟩))
                have hb9 : Below w.heap.size w (wd.setCell ⟨w.heap.size + 1 + 1, n, none⟩ (.pointer (some ⟨wr.heap.size, 0, none⟩))) := (below_next hba hbZ).setCell (by show w.heap.size ≤ w.heap.size + 1 + 1; omega) _
                have HLW9 : Hid (LastW (wd.setCell ⟨w.heap.size + 1 + 1, n, none⟩ (.pointer (some ⟨wr.heap.size, 0, none⟩))) (w.heap.size + 1 + 1) (vs.setIfInBounds n (.pointer (some ⟨wr.heap.size, 0, none⟩))) (fun q => bestTo cB id t q l (k + 1))) := (HLWa.out.below hbZ).put (x := (x1, x2, (n : Int), x4, x5)) hn1 hT8 hab (fun q => HF.out q)
                have hfr := hL8.frozen n
                obtain ⟨cl, hcl⟩ : ∃ cl, (wd).cell? ⟨w.heap.size + 1 + 1, n, none⟩ = some cl := by
                  rw [hL8.cell n]
                  exact ⟨_, Array.getElem?_eq_getElem (by have := HLWa.out.1; omega)⟩
                clear hbZ hHeld hLa hCa hRa hba HLWa HF hT hT_l hT_0 hT_1 hT_2 hT_3 hT_4 hCa_l hCa_0 hCa_1 hCa_2 hCa_3 hlu hL8
                have hT8_l := hT8.lt; have hT8_0 := hT8.cell 0; have hT8_1 := hT8.cell 1; have hT8_2 := hT8.cell 2; have hT8_3 := hT8.cell 3; have hT8_4 := hT8.cell 4; simp at hT8_0 hT8_1 hT8_2 hT8_3 hT8_4
                go_wp2_with fail
                rw [← Hae.out]
                go_roundg (l.length - (k + 1))
                case measure => have := hgk.out; omega
                case rel => exact ⟨k + 1, _, by go_num, by omega, rfl, HLW9, by first | exact hL9 | exact hL9.drew | exact hL9.drewN _, by first | exact hC9 | exact hC9.drew | exact hC9.drewN _, by first | exact hR9 | exact hR9.drew | exact hR9.drewN _, by first | exact hb9 | exact hb9.drew | (repeat' (first | exact Below.refl _ _ | assumption | refine Below.setCell ?_ ?_ _ | refine below_drewN ?_ _ | refine Below.drew ?_ | refine Below.alloc ?_ ?_ _ | (with_reducible refine Below.trans ?_ (Below.mono hb ?_)) | (with_reducible refine Below.trans ?_ (Below.mono hb0 ?_)) | (with_reducible refine Below.trans ?_ (Below.mono hb1 ?_)) | (with_reducible refine Below.trans ?_ (Below.mono hb2 ?_)) | (with_reducible refine Below.trans ?_ (Below.mono hb3 ?_)) | (with_reducible refine Below.trans ?_ (Below.mono hb4 ?_)) | (with_reducible refine Below.trans ?_ (Below.mono hb5 ?_)) | (with_reducible refine Below.trans ?_ (Below.mono hb6 ?_)) | (with_reducible refine Below.trans ?_ (Below.mono hb7 ?_)) | (with_reducible refine Below.trans ?_ (Below.mono hb8 ?_)) | (with_reducible refine Below.trans ?_ (Below.mono hb9 ?_)) | (with_reducible refine Below.trans ?_ (Below.mono hb10 ?_)) | (with_reducible refine Below.trans ?_ (Below.mono hb11 ?_)) | (with_reducible refine Below.trans ?_ (Below.mono hb12 ?_)) | (with_reducible refine Below.trans ?_ (Below.mono hb13 ?_)) | (with_reducible refine Below.trans ?_ (Below.mono hb14 ?_)) | (with_reducible refine Below.trans ?_ (Below.mono hb15 ?_)) | omega | (simp; done) | (simp; omega)))⟩
              · have HF := Lib.hid (HBn.out (by show newer (bestTo cB id t (n : Int) l k) _ = false; rw [HNy.out]; exact decide_eq_false hcv))
                have hcv' : cv ≤ 0 := by omega
                clear HBy HBc HBn HNy Pu p0 p1 p2 p3 p4 hcv
                have hL9 := hLa.below hbZ
                have hC9 := hCa.below hbZ
                have hR9 := hRa.below hbZ
                have hb9 := below_next hba hbZ
                have HLW9 := Lib.hid ((HLWa.out.below hbZ).congr (fun q => HF.out q))
                clear hbZ hHeld hLa hCa hRa hba HLWa HF hT hT_l hT_0 hT_1 hT_2 hT_3 hT_4 hCa_l hCa_0 hCa_1 hCa_2 hCa_3 hlu
                go_wp2_with fail
                rw [← Hae.out]
                go_roundg (l.length - (k + 1))
                case measure => have := hgk.out; omega
                case rel => exact ⟨k + 1, _, by go_num, by omega, rfl, HLW9, by first | exact hL9 | exact hL9.drew | exact hL9.drewN _, by first | exact hC9 | exact hC9.drew | exact hC9.drewN _, by first | exact hR9 | exact hR9.drew | exact hR9.drewN _, by first | exact hb9 | exact hb9.drew | (repeat' (first | exact Below.refl _ _ | assumption | refine Below.setCell ?_ ?_ _ | refine below_drewN ?_ _ | refine Below.drew ?_ | refine Below.alloc ?_ ?_ _ | (with_reducible refine Below.trans ?_ (Below.mono hb ?_)) | (with_reducible refine Below.trans ?_ (Below.mono hb0 ?_)) | (with_reducible refine Below.trans ?_ (Below.mono hb1 ?_)) | (with_reducible refine Below.trans ?_ (Below.mono hb2 ?_)) | (with_reducible refine Below.trans ?_ (Below.mono hb3 ?_)) | (with_reducible refine Below.trans ?_ (Below.mono hb4 ?_)) | (with_reducible refine Below.trans ?_ (Below.mono hb5 ?_)) | (with_reducible refine Below.trans ?_ (Below.mono hb6 ?_)) | (with_reducible refine Below.trans ?_ (Below.mono hb7 ?_)) | (with_reducible refine Below.trans ?_ (Below.mono hb8 ?_)) | (with_reducible refine Below.trans ?_ (Below.mono hb9 ?_)) | (with_reducible refine Below.trans ?_ (Below.mono hb10 ?_)) | (with_reducible refine Below.trans ?_ (Below.mono hb11 ?_)) | (with_reducible refine Below.trans ?_ (Below.mono hb12 ?_)) | (with_reducible refine Below.trans ?_ (Below.mono hb13 ?_)) | (with_reducible refine Below.trans ?_ (Below.mono hb14 ?_)) | (with_reducible refine Below.trans ?_ (Below.mono hb15 ?_)) | omega | (simp; done) | (simp; omega)))⟩
          · have HF := Lib.hid (HBc.out (by rw [HcBx.out, decide_eq_false hcn]; simp))
            have hcn' : (cn == 1) = false := by simpa using hcn
            clear HBy HBc HBn hcn
            refine wp_region_held_drew (S := (fun wx => wx.cell? ⟨wr.heap.size, 0, none⟩ = some (.string x1) ∧ wx.cell? ⟨wr.heap.size, 1, none⟩ = some (.int .i64 x2) ∧ wx.cell? ⟨wr.heap.size, 2, none⟩ = some (.int .i64 n) ∧ wx.cell? ⟨wr.heap.size, 3, none⟩ = some (.string x4) ∧ wx.cell? ⟨wr.heap.size, 4, none⟩ = some (.string x5) ∧ wx.cell? ⟨w.heap.size, 0, none⟩ = some (.int .i64 o) ∧ wx.cell? ⟨w.heap.size, 1, none⟩ = some (.int .i64 a) ∧ wx.cell? ⟨w.heap.size, 2, none⟩ = some (.int .i64 f) ∧ wx.cell? ⟨w.heap.size, 3, none⟩ = some (.slice a3 s.length c3) ∧ wx.cell? ⟨w.heap.size + 1 + 1, n, none⟩ = some (u) ∧ Below Wa.heap.size Wa wx)) (by kernel_rfl) ?hS (fun hHeld => ?_)
            case hS => exact ⟨hT_0, hT_1, hT_2, hT_3, hT_4, hCa_0, hCa_1, hCa_2, hCa_3, hlu, (Below.refl _ _).drew⟩
            refine rtake (i := 0) (d := (some 23)) (v := ?_) rfl (by kernel_rfl) (by kernel_rfl) (by kernel_rfl) (by kernel_rfl) (fun _ _ _ h => h) (by kernel_rfl) (by assumption) ?_ ?_
            rotate_left 1
            · (intro wI hSI; (try dsimp only at hSI); go_simp; (try with_reducible rfl))
            simp only [Act.put, List.setIfInBounds_toArray, List.set_cons_zero, List.set_cons_succ]
            refine rtake (i := 1) (d := (some 24)) (v := ?_) rfl (by kernel_rfl) (by kernel_rfl) (by kernel_rfl) (by kernel_rfl) (fun _ _ _ h => h) (by kernel_rfl) (by assumption) ?_ ?_
            rotate_left 1
            · (intro wI hSI; (try dsimp only at hSI); go_simp; (try with_reducible rfl))
            simp only [Act.put, List.setIfInBounds_toArray, List.set_cons_zero, List.set_cons_succ]
            refine rtake (i := 2) (d := (some 25)) (v := ?_) rfl (by kernel_rfl) (by kernel_rfl) (by kernel_rfl) (by kernel_rfl) (fun _ _ _ h => h) (by kernel_rfl) (by assumption) ?_ ?_
            rotate_left 1
            · (intro wI hSI; (try dsimp only at hSI); go_simp; (try with_reducible rfl))
            simp only [Act.put, List.setIfInBounds_toArray, List.set_cons_zero, List.set_cons_succ]
            refine rtake (i := 3) (d := (some 26)) (v := ?_) rfl (by kernel_rfl) (by kernel_rfl) (by kernel_rfl) (by kernel_rfl) (fun _ _ _ h => h) (by kernel_rfl) (by assumption) ?_ ?_
            rotate_left 1
            · (intro wI hSI; (try dsimp only at hSI); go_simp; (try with_reducible rfl))
            simp only [Act.put, List.setIfInBounds_toArray, List.set_cons_zero, List.set_cons_succ]
            refine rtake (i := 4) (d := (some 27)) (v := ?_) rfl (by kernel_rfl) (by kernel_rfl) (by kernel_rfl) (by kernel_rfl) (fun _ _ _ h => h) (by kernel_rfl) (by assumption) ?_ ?_
            rotate_left 1
            · (intro wI hSI; (try dsimp only at hSI); go_simp; (try with_reducible rfl))
            simp only [Act.put, List.setIfInBounds_toArray, List.set_cons_zero, List.set_cons_succ]
            refine rtake (i := 5) (d := (some 28)) (v := ?_) rfl (by kernel_rfl) (by kernel_rfl) (by kernel_rfl) (by kernel_rfl) (fun _ _ _ h => h) (by kernel_rfl) (by assumption) ?_ ?_
            rotate_left 1
            · (intro wI hSI; (try dsimp only at hSI); go_simp; (try with_reducible rfl))
            simp only [Act.put, List.setIfInBounds_toArray, List.set_cons_zero, List.set_cons_succ]
            refine rtake (i := 6) (d := (some 29)) (v := ?_) rfl (by kernel_rfl) (by kernel_rfl) (by kernel_rfl) (by kernel_rfl) (fun _ _ _ h => h) (by kernel_rfl) (by assumption) ?_ ?_
            rotate_left 1
            · (intro wI hSI; (try dsimp only at hSI); go_simp; (try with_reducible rfl))
            simp only [Act.put, List.setIfInBounds_toArray, List.set_cons_zero, List.set_cons_succ]
            refine rtake (i := 7) (d := (some 30)) (v := ?_) rfl (by kernel_rfl) (by kernel_rfl) (by kernel_rfl) (by kernel_rfl) (fun _ _ _ h => h) (by kernel_rfl) (by assumption) ?_ ?_
            rotate_left 1
            · (intro wI hSI; (try dsimp only at hSI); go_simp; (try with_reducible rfl))
            simp only [Act.put, List.setIfInBounds_toArray, List.set_cons_zero, List.set_cons_succ]
            refine rtake (i := 8) (d := (some 31)) (v := ?_) rfl (by kernel_rfl) (by kernel_rfl) (by kernel_rfl) (by kernel_rfl) (fun _ _ _ h => h) (by kernel_rfl) (by assumption) ?_ ?_
            rotate_left 1
            · (intro wI hSI; (try dsimp only at hSI); go_simp; (try with_reducible rfl))
            simp only [Act.put, List.setIfInBounds_toArray, List.set_cons_zero, List.set_cons_succ]
            refine rtake (i := 9) (d := (some 32)) (v := ?_) rfl (by kernel_rfl) (by kernel_rfl) (by kernel_rfl) (by kernel_rfl) (fun _ _ _ h => h) (by kernel_rfl) (by assumption) ?_ ?_
            rotate_left 1
            · (intro wI hSI; (try dsimp only at hSI); go_simp; (try with_reducible rfl))
            simp only [Act.put, List.setIfInBounds_toArray, List.set_cons_zero, List.set_cons_succ]
            refine rtake (i := 10) (d := (some 33)) (v := ?_) rfl (by kernel_rfl) (by kernel_rfl) (by kernel_rfl) (by kernel_rfl) (fun _ _ _ h => h) (by kernel_rfl) (by assumption) ?_ ?_
            rotate_left 1
            · (intro wI hSI; (try dsimp only at hSI); go_simp; (try with_reducible rfl))
            simp only [Act.put, List.setIfInBounds_toArray, List.set_cons_zero, List.set_cons_succ]
            refine rtake (i := 11) (d := (some 34)) (v := ?_) rfl (by kernel_rfl) (by kernel_rfl) (by kernel_rfl) (by kernel_rfl) (fun _ _ _ h => h) (by kernel_rfl) (by assumption) ?_ ?_
            rotate_left 1
            · (intro wI hSI; (try dsimp only at hSI); go_simp; (try with_reducible rfl))
            simp only [Act.put, List.setIfInBounds_toArray, List.set_cons_zero, List.set_cons_succ]
            refine rtake (i := 12) (d := (some 35)) (v := ?_) rfl (by kernel_rfl) (by kernel_rfl) (by kernel_rfl) (by kernel_rfl) (fun _ _ _ h => h) (by kernel_rfl) (by assumption) ?_ ?_
            rotate_left 1
            · (intro wI hSI; (try dsimp only at hSI); go_simp; (try with_reducible rfl))
            simp only [Act.put, List.setIfInBounds_toArray, List.set_cons_zero, List.set_cons_succ]
            refine rcall (i := 13) (d := (some 36)) (by kernel_rfl) rfl (by kernel_rfl) (fun K hK => ?_)
            rw [if_pos (by kernel_rfl)]; go_simp; go_at_call 47; refine (HCx.out _ (hsaa.below hHeld.2.2.2.2.2.2.2.2.2.2)).mono ?_; rintro e wc ⟨rfl, hbc⟩
            refine hK.out _ _ ?hS (fun hHeld => ?_)
            case hS => exact ⟨cell_later hbc hHeld.1, cell_later hbc hHeld.2.1, cell_later hbc hHeld.2.2.1, cell_later hbc hHeld.2.2.2.1, cell_later hbc hHeld.2.2.2.2.1, cell_later hbc hHeld.2.2.2.2.2.1, cell_later hbc hHeld.2.2.2.2.2.2.1, cell_later hbc hHeld.2.2.2.2.2.2.2.1, cell_later hbc hHeld.2.2.2.2.2.2.2.2.1, cell_later hbc hHeld.2.2.2.2.2.2.2.2.2.1, hHeld.2.2.2.2.2.2.2.2.2.2.trans (hbc.mono hHeld.2.2.2.2.2.2.2.2.2.2.size)⟩
            clear hK K
            simp only [Act.put, List.setIfInBounds_toArray, List.set_cons_zero, List.set_cons_succ]
            refine rtake (i := 14) (d := (some 37)) (v := ?_) rfl (by kernel_rfl) (by kernel_rfl) (by kernel_rfl) (by kernel_rfl) (fun _ _ _ h => h) (by kernel_rfl) (by assumption) ?_ ?_
            rotate_left 1
            · (intro wI hSI; (try dsimp only at hSI); go_simp; (try with_reducible rfl))
            simp only [Act.put, List.setIfInBounds_toArray, List.set_cons_zero, List.set_cons_succ]
            refine rtake (i := 15) (d := (some 38)) (v := ?_) rfl (by kernel_rfl) (by kernel_rfl) (by kernel_rfl) (by kernel_rfl) (fun _ _ _ h => h) (by kernel_rfl) (by assumption) ?_ ?_
            rotate_left 1
            · (intro wI hSI; (try dsimp only at hSI); go_simp; (try with_reducible rfl))
            simp only [Act.put, List.setIfInBounds_toArray, List.set_cons_zero, List.set_cons_succ]
            refine rtake (i := 16) (d := (some 39)) (v := ?_) rfl (by kernel_rfl) (by kernel_rfl) (by kernel_rfl) (by kernel_rfl) (fun _ _ _ h => h) (by kernel_rfl) (by assumption) ?_ ?_
            rotate_left 1
            · (intro wI hSI; (try dsimp only at hSI); go_simp; (try with_reducible rfl))
            simp only [Act.put, List.setIfInBounds_toArray, List.set_cons_zero, List.set_cons_succ]
            refine rskip (i := 17) (d := (some 40)) rfl (by kernel_rfl) (by kernel_rfl) (by kernel_rfl) (by kernel_rfl) (fun _ _ _ h => h) (by kernel_rfl) (by assumption) ?_
            simp only [Act.put, List.setIfInBounds_toArray, List.set_cons_zero, List.set_cons_succ]
            refine rskip (i := 18) (d := (some 41)) rfl (by kernel_rfl) (by kernel_rfl) (by kernel_rfl) (by kernel_rfl) (fun _ _ _ h => h) (by kernel_rfl) (by assumption) ?_
            simp only [Act.put, List.setIfInBounds_toArray, List.set_cons_zero, List.set_cons_succ]
            refine rskip (i := 19) (d := (some 42)) rfl (by kernel_rfl) (by kernel_rfl) (by kernel_rfl) (by kernel_rfl) (fun _ _ _ h => h) (by kernel_rfl) (by assumption) ?_
            simp only [Act.put, List.setIfInBounds_toArray, List.set_cons_zero, List.set_cons_succ]
            refine rskip (i := 20) (d := (some 43)) rfl (by kernel_rfl) (by kernel_rfl) (by kernel_rfl) (by kernel_rfl) (fun _ _ _ h => h) (by kernel_rfl) (by assumption) ?_
            simp only [Act.put, List.setIfInBounds_toArray, List.set_cons_zero, List.set_cons_succ]
            refine rskip (i := 21) (d := (some 44)) rfl (by kernel_rfl) (by kernel_rfl) (by kernel_rfl) (by kernel_rfl) (fun _ _ _ h => h) (by kernel_rfl) (by assumption) ?_
            simp only [Act.put, List.setIfInBounds_toArray, List.set_cons_zero, List.set_cons_succ]
            refine rskip (i := 22) (d := (some 45)) rfl (by kernel_rfl) (by kernel_rfl) (by kernel_rfl) (by kernel_rfl) (fun _ _ _ h => h) (by kernel_rfl) (by assumption) ?_
            simp only [Act.put, List.setIfInBounds_toArray, List.set_cons_zero, List.set_cons_succ]
            refine rskip (i := 23) (d := (some 46)) rfl (by kernel_rfl) (by kernel_rfl) (by kernel_rfl) (by kernel_rfl) (fun _ _ _ h => h) (by kernel_rfl) (by assumption) ?_
            simp only [Act.put, List.setIfInBounds_toArray, List.set_cons_zero, List.set_cons_succ]
            refine rskip (i := 24) (d := (some 47)) rfl (by kernel_rfl) (by kernel_rfl) (by kernel_rfl) (by kernel_rfl) (fun _ _ _ h => h) (by kernel_rfl) (by assumption) ?_
            simp only [Act.put, List.setIfInBounds_toArray, List.set_cons_zero, List.set_cons_succ]
            refine rskip (i := 25) (d := (some 48)) rfl (by kernel_rfl) (by kernel_rfl) (by kernel_rfl) (by kernel_rfl) (fun _ _ _ h => h) (by kernel_rfl) (by assumption) ?_
            simp only [Act.put, List.setIfInBounds_toArray, List.set_cons_zero, List.set_cons_succ]
            refine rskip (i := 26) (d := (some 49)) rfl (by kernel_rfl) (by kernel_rfl) (by kernel_rfl) (by kernel_rfl) (fun _ _ _ h => h) (by kernel_rfl) (by assumption) ?_
            simp only [Act.put, List.setIfInBounds_toArray, List.set_cons_zero, List.set_cons_succ]
            refine rskip (i := 27) (d := (some 50)) rfl (by kernel_rfl) (by kernel_rfl) (by kernel_rfl) (by kernel_rfl) (fun _ _ _ h => h) (by kernel_rfl) (by assumption) ?_
            simp only [Act.put, List.setIfInBounds_toArray, List.set_cons_zero, List.set_cons_succ]
            refine rskip (i := 28) (d := (some 51)) rfl (by kernel_rfl) (by kernel_rfl) (by kernel_rfl) (by kernel_rfl) (fun _ _ _ h => h) (by kernel_rfl) (by assumption) ?_
            simp only [Act.put, List.setIfInBounds_toArray, List.set_cons_zero, List.set_cons_succ]
            refine rskip (i := 29) (d := (some 52)) rfl (by kernel_rfl) (by kernel_rfl) (by kernel_rfl) (by kernel_rfl) (fun _ _ _ h => h) (by kernel_rfl) (by assumption) ?_
            simp only [Act.put, List.setIfInBounds_toArray, List.set_cons_zero, List.set_cons_succ]
            refine rcall (i := 30) (d := (some 53)) (by kernel_rfl) rfl (by kernel_rfl) (fun K hK => ?_)
            rw [if_neg (by rw [show Region.wanted _ _ = false by kernel_rfl]; decide)]
            refine hK.out _ _ ?hS (fun hHeld => ?_)
            case hS => exact hHeld
            clear hK K
            simp only [Act.put, List.setIfInBounds_toArray, List.set_cons_zero, List.set_cons_succ]
            refine rskip (i := 31) (d := (some 54)) rfl (by kernel_rfl) (by kernel_rfl) (by kernel_rfl) (by kernel_rfl) (fun _ _ _ h => h) (by kernel_rfl) (by assumption) ?_
            simp only [Act.put, List.setIfInBounds_toArray, List.set_cons_zero, List.set_cons_succ]
            refine rskip (i := 32) (d := (some 55)) rfl (by kernel_rfl) (by kernel_rfl) (by kernel_rfl) (by kernel_rfl) (fun _ _ _ h => h) (by kernel_rfl) (by assumption) ?_
            simp only [Act.put, List.setIfInBounds_toArray, List.set_cons_zero, List.set_cons_succ]
            refine rtake (i := 33) (d := (some 56)) (v := ?_) rfl (by kernel_rfl) (by kernel_rfl) (by kernel_rfl) (by kernel_rfl) (fun _ _ _ h => h) (by kernel_rfl) (by assumption) ?_ ?_
            rotate_left 1
            · (intro wI hSI; (try dsimp only at hSI); go_simp; (try with_reducible rfl))
            simp only [Act.put, List.setIfInBounds_toArray, List.set_cons_zero, List.set_cons_succ]
            refine wpAnyH_done (by kernel_rfl) ?_ _
            have hbZ := hHeld.2.2.2.2.2.2.2.2.2.2
            have hL9 := hLa.below hbZ
            have hC9 := hCa.below hbZ
            have hR9 := hRa.below hbZ
            have hb9 := below_next hba hbZ
            have HLW9 := Lib.hid ((HLWa.out.below hbZ).congr (fun q => HF.out q))
            clear hbZ hHeld hLa hCa hRa hba HLWa HF hT hT_l hT_0 hT_1 hT_2 hT_3 hT_4 hCa_l hCa_0 hCa_1 hCa_2 hCa_3 hlu
            go_wp2_with fail
            rw [← Hae.out]
            go_roundg (l.length - (k + 1))
            case measure => have := hgk.out; omega
            case rel => exact ⟨k + 1, _, by go_num, by omega, rfl, HLW9, by first | exact hL9 | exact hL9.drew | exact hL9.drewN _, by first | exact hC9 | exact hC9.drew | exact hC9.drewN _, by first | exact hR9 | exact hR9.drew | exact hR9.drewN _, by first | exact hb9 | exact hb9.drew | (repeat' (first | exact Below.refl _ _ | assumption | refine Below.setCell ?_ ?_ _ | refine below_drewN ?_ _ | refine Below.drew ?_ | refine Below.alloc ?_ ?_ _ | (with_reducible refine Below.trans ?_ (Below.mono hb ?_)) | (with_reducible refine Below.trans ?_ (Below.mono hb0 ?_)) | (with_reducible refine Below.trans ?_ (Below.mono hb1 ?_)) | (with_reducible refine Below.trans ?_ (Below.mono hb2 ?_)) | (with_reducible refine Below.trans ?_ (Below.mono hb3 ?_)) | (with_reducible refine Below.trans ?_ (Below.mono hb4 ?_)) | (with_reducible refine Below.trans ?_ (Below.mono hb5 ?_)) | (with_reducible refine Below.trans ?_ (Below.mono hb6 ?_)) | (with_reducible refine Below.trans ?_ (Below.mono hb7 ?_)) | (with_reducible refine Below.trans ?_ (Below.mono hb8 ?_)) | (with_reducible refine Below.trans ?_ (Below.mono hb9 ?_)) | (with_reducible refine Below.trans ?_ (Below.mono hb10 ?_)) | (with_reducible refine Below.trans ?_ (Below.mono hb11 ?_)) | (with_reducible refine Below.trans ?_ (Below.mono hb12 ?_)) | (with_reducible refine Below.trans ?_ (Below.mono hb13 ?_)) | (with_reducible refine Below.trans ?_ (Below.mono hb14 ?_)) | (with_reducible refine Below.trans ?_ (Below.mono hb15 ?_)) | omega | (simp; done) | (simp; omega)))⟩
        · have hd2 : decide (x2 ≤ t) = false := decide_eq_false hx2
          have HF := Lib.hid (HBc.out (by rw [hd2]; simp))
          clear hx1 hx2
          go_quiet (fail)
          have hL9 := hLa
          have hC9 := hCa
          have hR9 := hRa
          have hb9 := hba
          have HLWg := Lib.hid (fun W (h : Below Wa.heap.size Wa W) => (HLWa.out.below h).congr (fun q => HF.out q))
          clear hLa hCa hRa hba HLWa HF hT_l hT_0 hT_1 hT_2 hT_3 hT_4 HBy HBc HBn
          go_wp2_with fail
          rw [← Hae.out]
          go_roundg (l.length - (k + 1))
          case measure => have := hgk.out; omega
          case rel => exact ⟨k + 1, _, by go_num, by omega, rfl, (by exact HLWg.out _ (by first | exact Below.refl _ _ | exact (Below.refl _ _).drew | exact below_drewN (Below.refl _ _) _)), by first | exact hL9 | exact hL9.drew | exact hL9.drewN _, by first | exact hC9 | exact hC9.drew | exact hC9.drewN _, by first | exact hR9 | exact hR9.drew | exact hR9.drewN _, by first | exact hb9 | exact hb9.drew | (repeat' (first | exact Below.refl _ _ | assumption | refine Below.setCell ?_ ?_ _ | refine below_drewN ?_ _ | refine Below.drew ?_ | refine Below.alloc ?_ ?_ _ | (with_reducible refine Below.trans ?_ (Below.mono hb ?_)) | (with_reducible refine Below.trans ?_ (Below.mono hb0 ?_)) | (with_reducible refine Below.trans ?_ (Below.mono hb1 ?_)) | (with_reducible refine Below.trans ?_ (Below.mono hb2 ?_)) | (with_reducible refine Below.trans ?_ (Below.mono hb3 ?_)) | (with_reducible refine Below.trans ?_ (Below.mono hb4 ?_)) | (with_reducible refine Below.trans ?_ (Below.mono hb5 ?_)) | (with_reducible refine Below.trans ?_ (Below.mono hb6 ?_)) | (with_reducible refine Below.trans ?_ (Below.mono hb7 ?_)) | (with_reducible refine Below.trans ?_ (Below.mono hb8 ?_)) | (with_reducible refine Below.trans ?_ (Below.mono hb9 ?_)) | (with_reducible refine Below.trans ?_ (Below.mono hb10 ?_)) | (with_reducible refine Below.trans ?_ (Below.mono hb11 ?_)) | (with_reducible refine Below.trans ?_ (Below.mono hb12 ?_)) | (with_reducible refine Below.trans ?_ (Below.mono hb13 ?_)) | (with_reducible refine Below.trans ?_ (Below.mono hb14 ?_)) | (with_reducible refine Below.trans ?_ (Below.mono hb15 ?_)) | omega | (simp; done) | (simp; omega)))⟩
      · have hd1 : (x1.toList == id.toList) = false := by rw [toList_beq]; exact decide_eq_false hx1
        have HF := Lib.hid (HBc.out (by rw [decide_eq_false hx1]; rfl))
        clear hx1
        go_quiet (fail)
        have hL9 := hLa
        have hC9 := hCa
        have hR9 := hRa
        have hb9 := hba
        have HLWg := Lib.hid (fun W (h : Below Wa.heap.size Wa W) => (HLWa.out.below h).congr (fun q => HF.out q))
        clear hLa hCa hRa hba HLWa HF hT_l hT_0 hT_1 hT_2 hT_3 hT_4 HBy HBc HBn
        go_wp2_with fail
        rw [← Hae.out]
        go_roundg (l.length - (k + 1))
        case measure => have := hgk.out; omega
        case rel => exact ⟨k + 1, _, by go_num, by omega, rfl, (by exact HLWg.out _ (by first | exact Below.refl _ _ | exact (Below.refl _ _).drew | exact below_drewN (Below.refl _ _) _)), by first | exact hL9 | exact hL9.drew | exact hL9.drewN _, by first | exact hC9 | exact hC9.drew | exact hC9.drewN _, by first | exact hR9 | exact hR9.drew | exact hR9.drewN _, by first | exact hb9 | exact hb9.drew | (repeat' (first | exact Below.refl _ _ | assumption | refine Below.setCell ?_ ?_ _ | refine below_drewN ?_ _ | refine Below.drew ?_ | refine Below.alloc ?_ ?_ _ | (with_reducible refine Below.trans ?_ (Below.mono hb ?_)) | (with_reducible refine Below.trans ?_ (Below.mono hb0 ?_)) | (with_reducible refine Below.trans ?_ (Below.mono hb1 ?_)) | (with_reducible refine Below.trans ?_ (Below.mono hb2 ?_)) | (with_reducible refine Below.trans ?_ (Below.mono hb3 ?_)) | (with_reducible refine Below.trans ?_ (Below.mono hb4 ?_)) | (with_reducible refine Below.trans ?_ (Below.mono hb5 ?_)) | (with_reducible refine Below.trans ?_ (Below.mono hb6 ?_)) | (with_reducible refine Below.trans ?_ (Below.mono hb7 ?_)) | (with_reducible refine Below.trans ?_ (Below.mono hb8 ?_)) | (with_reducible refine Below.trans ?_ (Below.mono hb9 ?_)) | (with_reducible refine Below.trans ?_ (Below.mono hb10 ?_)) | (with_reducible refine Below.trans ?_ (Below.mono hb11 ?_)) | (with_reducible refine Below.trans ?_ (Below.mono hb12 ?_)) | (with_reducible refine Below.trans ?_ (Below.mono hb13 ?_)) | (with_reducible refine Below.trans ?_ (Below.mono hb14 ?_)) | (with_reducible refine Below.trans ?_ (Below.mono hb15 ?_)) | omega | (simp; done) | (simp; omega)))⟩
    · obtain rfl : k = l.length := by omega
      obtain ⟨v1, e1, P1, k1⟩ := hLW.out.2 1 (by omega) (by omega)
      obtain ⟨v2, e2, P2, k2⟩ := hLW.out.2 2 (by omega) (by omega)
      obtain ⟨v3, e3, P3, k3⟩ := hLW.out.2 3 (by omega) (by omega)
      have hLo := hL.alloc (.cells #[.string id, .int .i64 1, .string ⟨#[]⟩, .string ⟨#[]⟩, .int .i64 0] 35)
      have hl1 := hLo.cell 1
      have hl2 := hLo.cell 2
      have hl3 := hLo.cell 3
      rw [e1] at hl1
      rw [e2] at hl2
      rw [e3] at hl3
      replace P1 : Hid (PtrIs wr v1 (bestTo cB id t 1 l l.length)) := P1
      replace P2 : Hid (PtrIs wr v2 (bestTo cB id t 2 l l.length)) := P2
      replace P3 : Hid (PtrIs wr v3 (bestTo cB id t 3 l l.length)) := P3
      have hO0 := Box.new wr 35 #[.string id, .int .i64 1, .string ⟨#[]⟩, .string ⟨#[]⟩, .int .i64 0]
      have hR0 := hR.alloc (.cells #[.string id, .int .i64 1, .string ⟨#[]⟩, .string ⟨#[]⟩, .int .i64 0] 35)
      have hb0 : Below w.heap.size w (wr.alloc (.cells #[.string id, .int .i64 1, .string ⟨#[]⟩, .string ⟨#[]⟩, .int .i64 0] 35)) := by (repeat' (first | exact Below.refl _ _ | assumption | refine Below.setCell ?_ ?_ _ | refine below_drewN ?_ _ | refine Below.drew ?_ | refine Below.alloc ?_ ?_ _ | (with_reducible refine Below.trans ?_ (Below.mono hb ?_)) | (with_reducible refine Below.trans ?_ (Below.mono hb0 ?_)) | (with_reducible refine Below.trans ?_ (Below.mono hb1 ?_)) | (with_reducible refine Below.trans ?_ (Below.mono hb2 ?_)) | (with_reducible refine Below.trans ?_ (Below.mono hb3 ?_)) | (with_reducible refine Below.trans ?_ (Below.mono hb4 ?_)) | (with_reducible refine Below.trans ?_ (Below.mono hb5 ?_)) | (with_reducible refine Below.trans ?_ (Below.mono hb6 ?_)) | (with_reducible refine Below.trans ?_ (Below.mono hb7 ?_)) | (with_reducible refine Below.trans ?_ (Below.mono hb8 ?_)) | (with_reducible refine Below.trans ?_ (Below.mono hb9 ?_)) | (with_reducible refine Below.trans ?_ (Below.mono hb10 ?_)) | (with_reducible refine Below.trans ?_ (Below.mono hb11 ?_)) | (with_reducible refine Below.trans ?_ (Below.mono hb12 ?_)) | (with_reducible refine Below.trans ?_ (Below.mono hb13 ?_)) | (with_reducible refine Below.trans ?_ (Below.mono hb14 ?_)) | (with_reducible refine Below.trans ?_ (Below.mono hb15 ?_)) | omega | (simp; done) | (simp; omega)))
      have hw0 : Below wr.heap.size wr (wr.alloc (.cells #[.string id, .int .i64 1, .string ⟨#[]⟩, .string ⟨#[]⟩, .int .i64 0] 35)) := (Below.refl _ _).alloc (Nat.le_refl _) _
      have hob : wr.heap.size < (wr.alloc (.cells #[.string id, .int .i64 1, .string ⟨#[]⟩, .string ⟨#[]⟩, .int .i64 0] 35)).heap.size := hO0.lt
      clear hLW e1 e2 e3 HCn HcB Hkd hC hR hb hL hLo hs hl hgk hk hlt
      generalize bestTo cB id t 1 l l.length = ab at *
      generalize bestTo cB id t 2 l l.length = fu at *
      generalize bestTo cB id t 3 l l.length = ba at *
      go_upto_region 9 with (fail)
      generalize wr.alloc (.cells #[.string id, .int .i64 1, .string ⟨#[]⟩, .string ⟨#[]⟩, .int .i64 0] 35) = Wo at *
      refine wp_region_held_drew (S := (fun wx => wx.cell? ⟨w.heap.size + 1 + 1, 1, none⟩ = some v1 ∧ wx.cell? ⟨w.heap.size + 1 + 1, 2, none⟩ = some v2 ∧ wx.cell? ⟨w.heap.size + 1 + 1, 3, none⟩ = some v3)) (by kernel_rfl) ?hS (fun hHeld => ?_)
      case hS => exact ⟨hl1, hl2, hl3⟩
      refine rtake (i := 0) (d := (some 63)) (v := ?_) rfl (by kernel_rfl) (by kernel_rfl) (by kernel_rfl) (by kernel_rfl) (fun _ _ _ h => h) (by kernel_rfl) (by assumption) ?_ ?_
      rotate_left 1
      · (intro wI hSI; (try dsimp only at hSI); go_simp; (try with_reducible rfl))
      simp only [Act.put, List.setIfInBounds_toArray, List.set_cons_zero, List.set_cons_succ]
      refine rtake (i := 1) (d := (some 64)) (v := ?_) rfl (by kernel_rfl) (by kernel_rfl) (by kernel_rfl) (by kernel_rfl) (fun _ _ _ h => h) (by kernel_rfl) (by assumption) ?_ ?_
      rotate_left 1
      · (intro wI hSI; (try dsimp only at hSI); go_simp; (try with_reducible rfl))
      simp only [Act.put, List.setIfInBounds_toArray, List.set_cons_zero, List.set_cons_succ]
      refine rtake (i := 2) (d := (some 65)) (v := ?_) rfl (by kernel_rfl) (by kernel_rfl) (by kernel_rfl) (by kernel_rfl) (fun _ _ _ h => h) (by kernel_rfl) (by assumption) ?_ ?_
      rotate_left 1
      · (intro wI hSI; (try dsimp only at hSI); go_simp; (try with_reducible rfl))
      simp only [Act.put, List.setIfInBounds_toArray, List.set_cons_zero, List.set_cons_succ]
      refine rtake (i := 3) (d := (some 66)) (v := ?_) rfl (by kernel_rfl) (by kernel_rfl) (by kernel_rfl) (by kernel_rfl) (fun _ _ _ h => h) (by kernel_rfl) (by assumption) ?_ ?_
      rotate_left 1
      · (intro wI hSI; (try dsimp only at hSI); go_simp; (try with_reducible rfl))
      simp only [Act.put, List.setIfInBounds_toArray, List.set_cons_zero, List.set_cons_succ]
      refine rtake (i := 4) (d := (some 67)) (v := ?_) rfl (by kernel_rfl) (by kernel_rfl) (by kernel_rfl) (by kernel_rfl) (fun _ _ _ h => h) (by kernel_rfl) (by assumption) ?_ ?_
      rotate_left 1
      · (intro wI hSI; (try dsimp only at hSI); go_simp; (try with_reducible rfl))
      simp only [Act.put, List.setIfInBounds_toArray, List.set_cons_zero, List.set_cons_succ]
      refine rtake (i := 5) (d := (some 68)) (v := ?_) rfl (by kernel_rfl) (by kernel_rfl) (by kernel_rfl) (by kernel_rfl) (fun _ _ _ h => h) (by kernel_rfl) (by assumption) ?_ ?_
      rotate_left 1
      · (intro wI hSI; (try dsimp only at hSI); go_simp; (try with_reducible rfl))
      simp only [Act.put, List.setIfInBounds_toArray, List.set_cons_zero, List.set_cons_succ]
      refine rtake (i := 6) (d := (some 13)) (v := ?_) rfl (by kernel_rfl) (by kernel_rfl) (by kernel_rfl) (by kernel_rfl) (fun _ _ _ h => h) (by kernel_rfl) (by assumption) ?_ ?_
      rotate_left 1
      · (intro wI hSI; (try dsimp only at hSI); go_simp; (try with_reducible rfl))
      simp only [Act.put, List.setIfInBounds_toArray, List.set_cons_zero, List.set_cons_succ]
      refine rtake (i := 7) (d := (some 14)) (v := ?_) rfl (by kernel_rfl) (by kernel_rfl) (by kernel_rfl) (by kernel_rfl) (fun _ _ _ h => h) (by kernel_rfl) (by assumption) ?_ ?_
      rotate_left 1
      · (intro wI hSI; (try dsimp only at hSI); go_simp; (try with_reducible rfl))
      simp only [Act.put, List.setIfInBounds_toArray, List.set_cons_zero, List.set_cons_succ]
      refine rtake (i := 8) (d := (some 15)) (v := ?_) rfl (by kernel_rfl) (by kernel_rfl) (by kernel_rfl) (by kernel_rfl) (fun _ _ _ h => h) (by kernel_rfl) (by assumption) ?_ ?_
      rotate_left 1
      · (intro wI hSI; (try dsimp only at hSI); go_simp; (try with_reducible rfl))
      simp only [Act.put, List.setIfInBounds_toArray, List.set_cons_zero, List.set_cons_succ]
      refine wpAnyH_done (by kernel_rfl) ?_ _
      have hO := hO0.drew
      have hR := hR0.drew
      have hb := hb0.drew
      have hw := hw0.drew
      clear hO0 hR0 hb0 hw0 hl1 hl2 hl3 hHeld
      replace hob : wr.heap.size < Wo.drew.heap.size := hob
      generalize Wo.drew = W1 at *
      cases ab with
      | none =>
        obtain rfl := P1.out.isNone
        have He : Hid (en = (id, 1, ⟨#[]⟩, ⟨#[]⟩, 0)) := HE.out
        go_upto_region 11 with (fail)
        have hR_l := hR.lt; have hR_0 := hR.cell 0; have hR_1 := hR.cell 1; have hR_2 := hR.cell 2; have hR_3 := hR.cell 3; have hR_4 := hR.cell 4; simp at hR_0 hR_1 hR_2 hR_3 hR_4
        have hR_f0 := hR.frozen 0; have hR_f1 := hR.frozen 1; have hR_f2 := hR.frozen 2; have hR_f3 := hR.frozen 3; have hR_f4 := hR.frozen 4
        have hO_l := hO.lt; have hO_0 := hO.cell 0; have hO_1 := hO.cell 1; have hO_2 := hO.cell 2; have hO_3 := hO.cell 3; have hO_4 := hO.cell 4; simp at hO_0 hO_1 hO_2 hO_3 hO_4
        go_wp2_with fail
        refine bodyPost_ret (v := entAgg (id, 1, ⟨#[]⟩, ⟨#[]⟩, 0)) (by simp only [results, Tryz.results17]; go_simp; first | rfl | simp [entAgg]) rfl ?_
        refine ⟨?_, by (repeat' (first | exact Below.refl _ _ | assumption | refine Below.setCell ?_ ?_ _ | refine below_drewN ?_ _ | refine Below.drew ?_ | refine Below.alloc ?_ ?_ _ | (with_reducible refine Below.trans ?_ (Below.mono hb ?_)) | (with_reducible refine Below.trans ?_ (Below.mono hb0 ?_)) | (with_reducible refine Below.trans ?_ (Below.mono hb1 ?_)) | (with_reducible refine Below.trans ?_ (Below.mono hb2 ?_)) | (with_reducible refine Below.trans ?_ (Below.mono hb3 ?_)) | (with_reducible refine Below.trans ?_ (Below.mono hb4 ?_)) | (with_reducible refine Below.trans ?_ (Below.mono hb5 ?_)) | (with_reducible refine Below.trans ?_ (Below.mono hb6 ?_)) | (with_reducible refine Below.trans ?_ (Below.mono hb7 ?_)) | (with_reducible refine Below.trans ?_ (Below.mono hb8 ?_)) | (with_reducible refine Below.trans ?_ (Below.mono hb9 ?_)) | (with_reducible refine Below.trans ?_ (Below.mono hb10 ?_)) | (with_reducible refine Below.trans ?_ (Below.mono hb11 ?_)) | (with_reducible refine Below.trans ?_ (Below.mono hb12 ?_)) | (with_reducible refine Below.trans ?_ (Below.mono hb13 ?_)) | (with_reducible refine Below.trans ?_ (Below.mono hb14 ?_)) | (with_reducible refine Below.trans ?_ (Below.mono hb15 ?_)) | omega | (simp; done) | (simp; omega)))⟩
        rw [He.out]
      | some a1 =>
        replace HE : Hid (en = (id, if isBack a1 fu ba = true then 4 else if fu.isSome = true then 3 else 2, a1.2.2.2.2, (fu.map (·.2.2.2.2)).getD ⟨#[]⟩, (newest a1 fu ba).2.1)) := HE.out
        obtain ⟨b1, o1, rfl, z0, z1, z2, z3, z4⟩ := P1.out.isSome
        have y4 := cell_later hw z4
        have Z4 := Lib.hid z4
        have hRc := (hR.setOther (p := ⟨wr.heap.size, 1, none⟩) (by show wr.heap.size ≠ w.heap.size + 1; omega) (.int .i64 2)).setOther (p := ⟨wr.heap.size, 2, none⟩) (by show wr.heap.size ≠ w.heap.size + 1; omega) (.string a1.2.2.2.2)
        have hOc := (hO.set 1 (.int .i64 2)).set 2 (.string a1.2.2.2.2)
        simp at hOc
        have hw1 : Below wr.heap.size wr (W1.setCell ⟨wr.heap.size, 1, none⟩ (.int .i64 2)) := hw.setCell (by show wr.heap.size ≤ wr.heap.size; omega) _
        have hwc : Below wr.heap.size wr ((W1.setCell ⟨wr.heap.size, 1, none⟩ (.int .i64 2)).setCell ⟨wr.heap.size, 2, none⟩ (.string a1.2.2.2.2)) := hw1.setCell (by show wr.heap.size ≤ wr.heap.size; omega) _
        have hbc : Below w.heap.size w ((W1.setCell ⟨wr.heap.size, 1, none⟩ (.int .i64 2)).setCell ⟨wr.heap.size, 2, none⟩ (.string a1.2.2.2.2)) := (hb.setCell (by show w.heap.size ≤ wr.heap.size; omega) _).setCell (by show w.heap.size ≤ wr.heap.size; omega) _
        have hO_l := hO.lt; have hO_0 := hO.cell 0; have hO_1 := hO.cell 1; have hO_2 := hO.cell 2; have hO_3 := hO.cell 3; have hO_4 := hO.cell 4; simp at hO_0 hO_1 hO_2 hO_3 hO_4
        have hO_f0 := hO.frozen 0; have hO_f1 := hO.frozen 1; have hO_f2 := hO.frozen 2; have hO_f3 := hO.frozen 3; have hO_f4 := hO.frozen 4
        clear z0 z1 z2 z3 z4
        go_upto_region 12 with (fail)
        refine wp_region_held_drew (S := (fun wx => wx.cell? ⟨b1, o1 + 4, none⟩ = some (.string a1.2.2.2.2))) (by kernel_rfl) ?hS (fun hHeld => ?_)
        case hS => exact y4
        refine rtake (i := 0) (d := (some 72)) (v := ?_) rfl (by kernel_rfl) (by kernel_rfl) (by kernel_rfl) (by kernel_rfl) (fun _ _ _ h => h) (by kernel_rfl) (by assumption) ?_ ?_
        rotate_left 1
        · (intro wI hSI; (try dsimp only at hSI); go_simp; (try with_reducible rfl))
        simp only [Act.put, List.setIfInBounds_toArray, List.set_cons_zero, List.set_cons_succ]
        refine rtake (i := 1) (d := (some 73)) (v := ?_) rfl (by kernel_rfl) (by kernel_rfl) (by kernel_rfl) (by kernel_rfl) (fun _ _ _ h => h) (by kernel_rfl) (by assumption) ?_ ?_
        rotate_left 1
        · (intro wI hSI; (try dsimp only at hSI); go_simp; (try with_reducible rfl))
        simp only [Act.put, List.setIfInBounds_toArray, List.set_cons_zero, List.set_cons_succ]
        refine rtake (i := 2) (d := (some 74)) (v := ?_) rfl (by kernel_rfl) (by kernel_rfl) (by kernel_rfl) (by kernel_rfl) (fun _ _ _ h => h) (by kernel_rfl) (by assumption) ?_ ?_
        rotate_left 1
        · (intro wI hSI; (try dsimp only at hSI); go_simp; (try with_reducible rfl))
        simp only [Act.put, List.setIfInBounds_toArray, List.set_cons_zero, List.set_cons_succ]
        refine rtake (i := 3) (d := (some 75)) (v := ?_) rfl (by kernel_rfl) (by kernel_rfl) (by kernel_rfl) (by kernel_rfl) (fun _ _ _ h => h) (by kernel_rfl) (by assumption) ?_ ?_
        rotate_left 1
        · (intro wI hSI; (try dsimp only at hSI); go_simp; (try with_reducible rfl))
        simp only [Act.put, List.setIfInBounds_toArray, List.set_cons_zero, List.set_cons_succ]
        refine rtake (i := 4) (d := (some 76)) (v := ?_) rfl (by kernel_rfl) (by kernel_rfl) (by kernel_rfl) (by kernel_rfl) (fun _ _ _ h => h) (by kernel_rfl) (by assumption) ?_ ?_
        rotate_left 1
        · (intro wI hSI; (try dsimp only at hSI); go_simp; (try with_reducible rfl))
        simp only [Act.put, List.setIfInBounds_toArray, List.set_cons_zero, List.set_cons_succ]
        refine rcall (i := 5) (d := none) (by kernel_rfl) rfl (by kernel_rfl) (fun K hK => ?_)
        go_simp
        refine hK.out undef _ ?hS (fun hHeld => ?_)
        case hS => exact cell_later hw1.drew Z4.out
        clear hK K
        simp only [Act.put, List.setIfInBounds_toArray, List.set_cons_zero, List.set_cons_succ]
        refine rtake (i := 6) (d := (some 77)) (v := ?_) rfl (by kernel_rfl) (by kernel_rfl) (by kernel_rfl) (by kernel_rfl) (fun _ _ _ h => h) (by kernel_rfl) (by assumption) ?_ ?_
        rotate_left 1
        · (intro wI hSI; (try dsimp only at hSI); go_simp; (try with_reducible rfl))
        simp only [Act.put, List.setIfInBounds_toArray, List.set_cons_zero, List.set_cons_succ]
        refine rcall (i := 7) (d := none) (by kernel_rfl) rfl (by kernel_rfl) (fun K hK => ?_)
        go_simp
        refine hK.out undef _ ?hS (fun hHeld => ?_)
        case hS => exact cell_later hwc.drew Z4.out
        clear hK K
        simp only [Act.put, List.setIfInBounds_toArray, List.set_cons_zero, List.set_cons_succ]
        refine wpAnyH_done (by kernel_rfl) ?_ _
        clear hO_l hO_0 hO_1 hO_2 hO_3 hO_4 hO_f0 hO_f1 hO_f2 hO_f3 hO_f4 hO hR hb hw hw1 y4 Z4 hHeld
        have hO := hOc.drew
        have hR := hRc.drew
        have hb := hbc.drew
        have hw := hwc.drew
        have hoz : wr.heap.size < (((W1.setCell ⟨wr.heap.size, 1, none⟩ (.int .i64 2)).setCell ⟨wr.heap.size, 2, none⟩ (.string a1.2.2.2.2)).drew).heap.size := hO.lt
        clear hOc hRc hbc hwc hob
        generalize ((W1.setCell ⟨wr.heap.size, 1, none⟩ (.int .i64 2)).setCell ⟨wr.heap.size, 2, none⟩ (.string a1.2.2.2.2)).drew = W2 at *
        have hE := Box.new W2 63 #[.string a1.1, .int .i64 a1.2.1, .int .i64 a1.2.2.1, .string a1.2.2.2.1, .string a1.2.2.2.2]
        have hO2 := hO.alloc (.cells #[.string a1.1, .int .i64 a1.2.1, .int .i64 a1.2.2.1, .string a1.2.2.2.1, .string a1.2.2.2.2] 63)
        have hR2 := hR.alloc (.cells #[.string a1.1, .int .i64 a1.2.1, .int .i64 a1.2.2.1, .string a1.2.2.2.1, .string a1.2.2.2.2] 63)
        have hb2 : Below w.heap.size w (W2.alloc (.cells #[.string a1.1, .int .i64 a1.2.1, .int .i64 a1.2.2.1, .string a1.2.2.2.1, .string a1.2.2.2.2] 63)) := hb.alloc (by omega) _
        have hw2 : Below wr.heap.size wr (W2.alloc (.cells #[.string a1.1, .int .i64 a1.2.1, .int .i64 a1.2.2.1, .string a1.2.2.2.1, .string a1.2.2.2.2] 63)) := hw.alloc (by omega) _
        obtain ⟨b1', o1', he1, z0, z1, z2, z3, z4⟩ := (P1.out.below hw).isSome
        cases he1
        clear hO hR hb hw P1
        go_upto_region 14 with (fail)
        clear z0 z1 z2 z3 z4
        generalize W2.alloc (.cells #[.string a1.1, .int .i64 a1.2.1, .int .i64 a1.2.2.1, .string a1.2.2.2.1, .string a1.2.2.2.2] 63) = W3 at *
        generalize W2.heap.size = eb at *
        have hne2 := ptr_ne P2.out
        have hgd2 := ptr_guard P2.out
        obtain ⟨bs, hbs⟩ : ∃ bs, fu.isSome = bs := ⟨_, rfl⟩
        have Hbs := Lib.hid hbs
        rw [hbs] at hne2
        clear hbs
        go_upto_if 82 with (fail)
        clear hne2 hgd2
        go_cut [] (fun wx => Box wx eb 63 #[.string (newF a1 fu).1, .int .i64 (newF a1 fu).2.1, .int .i64 (newF a1 fu).2.2.1, .string (newF a1 fu).2.2.2.1, .string (newF a1 fu).2.2.2.2] ∧ Box wx wr.heap.size 35 #[.string id, .int .i64 (if fu.isSome = true then 3 else 2), .string a1.2.2.2.2, .string ((fu.map (·.2.2.2.2)).getD ⟨#[]⟩), .int .i64 0] ∧ Box wx (w.heap.size + 1) 35 #[.string ⟨#[]⟩, .int .i64 0, .string ⟨#[]⟩, .string ⟨#[]⟩, .int .i64 0] ∧ Below wr.heap.size wr wx ∧ Below w.heap.size w wx)
        case first =>
          rcases fu with _ | f
          · obtain rfl := P2.out.isNone
            obtain rfl : bs = false := Hbs.out.symm
            go_wp2_with fail
            go_meet
            exact ⟨hE, hO2, hR2, hw2, hb2⟩
          · obtain ⟨bf, of, rfl, f0, f1, f2, f3, f4⟩ := P2.out.isSome
            obtain rfl : bs = true := Hbs.out.symm
            have y4 := cell_later hw2 f4
            have F4 := Lib.hid f4
            have hRc := (hR2.setOther (p := ⟨wr.heap.size, 1, none⟩) (by show wr.heap.size ≠ w.heap.size + 1; omega) (.int .i64 3)).setOther (p := ⟨wr.heap.size, 3, none⟩) (by show wr.heap.size ≠ w.heap.size + 1; omega) (.string f.2.2.2.2)
            have hEc := (hE.setOther (p := ⟨wr.heap.size, 1, none⟩) (by show wr.heap.size ≠ eb; omega) (.int .i64 3)).setOther (p := ⟨wr.heap.size, 3, none⟩) (by show wr.heap.size ≠ eb; omega) (.string f.2.2.2.2)
            have hOc := (hO2.set 1 (.int .i64 3)).set 3 (.string f.2.2.2.2)
            simp at hOc
            have hw1 : Below wr.heap.size wr (W3.setCell ⟨wr.heap.size, 1, none⟩ (.int .i64 3)) := hw2.setCell (by show wr.heap.size ≤ wr.heap.size; omega) _
            have hwc : Below wr.heap.size wr ((W3.setCell ⟨wr.heap.size, 1, none⟩ (.int .i64 3)).setCell ⟨wr.heap.size, 3, none⟩ (.string f.2.2.2.2)) := hw1.setCell (by show wr.heap.size ≤ wr.heap.size; omega) _
            have hbc : Below w.heap.size w ((W3.setCell ⟨wr.heap.size, 1, none⟩ (.int .i64 3)).setCell ⟨wr.heap.size, 3, none⟩ (.string f.2.2.2.2)) := (hb2.setCell (by show w.heap.size ≤ wr.heap.size; omega) _).setCell (by show w.heap.size ≤ wr.heap.size; omega) _
            have hO2_l := hO2.lt; have hO2_0 := hO2.cell 0; have hO2_1 := hO2.cell 1; have hO2_2 := hO2.cell 2; have hO2_3 := hO2.cell 3; have hO2_4 := hO2.cell 4; simp at hO2_0 hO2_1 hO2_2 hO2_3 hO2_4
            have hO2_f0 := hO2.frozen 0; have hO2_f1 := hO2.frozen 1; have hO2_f2 := hO2.frozen 2; have hO2_f3 := hO2.frozen 3; have hO2_f4 := hO2.frozen 4
            clear f0 f1 f2 f3 f4
            go_upto_region 15 with (fail)
            refine wp_region_held_drew (S := (fun wx => wx.cell? ⟨bf, of + 4, none⟩ = some (.string f.2.2.2.2))) (by kernel_rfl) ?hS (fun hHeld => ?_)
            case hS => exact y4
            refine rtake (i := 0) (d := (some 83)) (v := ?_) rfl (by kernel_rfl) (by kernel_rfl) (by kernel_rfl) (by kernel_rfl) (fun _ _ _ h => h) (by kernel_rfl) (by assumption) ?_ ?_
            rotate_left 1
            · (intro wI hSI; (try dsimp only at hSI); go_simp; (try with_reducible rfl))
            simp only [Act.put, List.setIfInBounds_toArray, List.set_cons_zero, List.set_cons_succ]
            refine rtake (i := 1) (d := (some 84)) (v := ?_) rfl (by kernel_rfl) (by kernel_rfl) (by kernel_rfl) (by kernel_rfl) (fun _ _ _ h => h) (by kernel_rfl) (by assumption) ?_ ?_
            rotate_left 1
            · (intro wI hSI; (try dsimp only at hSI); go_simp; (try with_reducible rfl))
            simp only [Act.put, List.setIfInBounds_toArray, List.set_cons_zero, List.set_cons_succ]
            refine rtake (i := 2) (d := (some 85)) (v := ?_) rfl (by kernel_rfl) (by kernel_rfl) (by kernel_rfl) (by kernel_rfl) (fun _ _ _ h => h) (by kernel_rfl) (by assumption) ?_ ?_
            rotate_left 1
            · (intro wI hSI; (try dsimp only at hSI); go_simp; (try with_reducible rfl))
            simp only [Act.put, List.setIfInBounds_toArray, List.set_cons_zero, List.set_cons_succ]
            refine rtake (i := 3) (d := (some 86)) (v := ?_) rfl (by kernel_rfl) (by kernel_rfl) (by kernel_rfl) (by kernel_rfl) (fun _ _ _ h => h) (by kernel_rfl) (by assumption) ?_ ?_
            rotate_left 1
            · (intro wI hSI; (try dsimp only at hSI); go_simp; (try with_reducible rfl))
            simp only [Act.put, List.setIfInBounds_toArray, List.set_cons_zero, List.set_cons_succ]
            refine rtake (i := 4) (d := (some 87)) (v := ?_) rfl (by kernel_rfl) (by kernel_rfl) (by kernel_rfl) (by kernel_rfl) (fun _ _ _ h => h) (by kernel_rfl) (by assumption) ?_ ?_
            rotate_left 1
            · (intro wI hSI; (try dsimp only at hSI); go_simp; (try with_reducible rfl))
            simp only [Act.put, List.setIfInBounds_toArray, List.set_cons_zero, List.set_cons_succ]
            refine rcall (i := 5) (d := none) (by kernel_rfl) rfl (by kernel_rfl) (fun K hK => ?_)
            go_simp
            refine hK.out undef _ ?hS (fun hHeld => ?_)
            case hS => exact cell_later hw1.drew F4.out
            clear hK K
            simp only [Act.put, List.setIfInBounds_toArray, List.set_cons_zero, List.set_cons_succ]
            refine rtake (i := 6) (d := (some 88)) (v := ?_) rfl (by kernel_rfl) (by kernel_rfl) (by kernel_rfl) (by kernel_rfl) (fun _ _ _ h => h) (by kernel_rfl) (by assumption) ?_ ?_
            rotate_left 1
            · (intro wI hSI; (try dsimp only at hSI); go_simp; (try with_reducible rfl))
            simp only [Act.put, List.setIfInBounds_toArray, List.set_cons_zero, List.set_cons_succ]
            refine rcall (i := 7) (d := none) (by kernel_rfl) rfl (by kernel_rfl) (fun K hK => ?_)
            go_simp
            refine hK.out undef _ ?hS (fun hHeld => ?_)
            case hS => exact cell_later hwc.drew F4.out
            clear hK K
            simp only [Act.put, List.setIfInBounds_toArray, List.set_cons_zero, List.set_cons_succ]
            refine wpAnyH_done (by kernel_rfl) ?_ _
            clear hO2_l hO2_0 hO2_1 hO2_2 hO2_3 hO2_4 hO2_f0 hO2_f1 hO2_f2 hO2_f3 hO2_f4 hO2 hR2 hb2 hw2 hw1 hE y4 F4 hHeld
            have hO := hOc.drew
            have hR := hRc.drew
            have hE := hEc.drew
            have hb := hbc.drew
            have hw := hwc.drew
            clear hOc hRc hbc hwc hEc
            generalize ((W3.setCell ⟨wr.heap.size, 1, none⟩ (.int .i64 3)).setCell ⟨wr.heap.size, 3, none⟩ (.string f.2.2.2.2)).drew = WQ at *
            obtain ⟨bf', of', hef, q0, q1, q2, q3, q4⟩ := (P2.out.below hw).isSome
            cases hef
            have HOr := Lib.hid (fun W => orderA_any f a1 W)
            have HNy := Lib.hid (fun h => newF_yes (a := a1) (x := f) h)
            have HNn := Lib.hid (fun h => newF_no (a := a1) (x := f) h)
            generalize cmpO f a1 = cv at *
            have hE_l := hE.lt; have hE_0 := hE.cell 0; have hE_1 := hE.cell 1; have hE_2 := hE.cell 2; have hE_3 := hE.cell 3; have hE_4 := hE.cell 4; simp at hE_0 hE_1 hE_2 hE_3 hE_4
            go_upto_region 16 with (fail)
            refine wp_region_held_drew (S := (fun wx => wx.cell? ⟨bf, of, none⟩ = some (.string f.1) ∧ wx.cell? ⟨bf, of + 1, none⟩ = some (.int .i64 f.2.1) ∧ wx.cell? ⟨bf, of + 2, none⟩ = some (.int .i64 f.2.2.1) ∧ wx.cell? ⟨bf, of + 3, none⟩ = some (.string f.2.2.2.1) ∧ wx.cell? ⟨bf, of + 4, none⟩ = some (.string f.2.2.2.2) ∧ wx.cell? ⟨eb, 0, none⟩ = some (.string a1.1) ∧ wx.cell? ⟨eb, 1, none⟩ = some (.int .i64 a1.2.1) ∧ wx.cell? ⟨eb, 2, none⟩ = some (.int .i64 a1.2.2.1) ∧ wx.cell? ⟨eb, 3, none⟩ = some (.string a1.2.2.2.1) ∧ wx.cell? ⟨eb, 4, none⟩ = some (.string a1.2.2.2.2) ∧ Below WQ.heap.size WQ wx)) (by kernel_rfl) ?hS (fun hHeld => ?_)
            case hS => exact ⟨q0, q1, q2, q3, q4, hE_0, hE_1, hE_2, hE_3, hE_4, (Below.refl _ _).drew⟩
            refine rtake (i := 0) (d := (some 89)) (v := ?_) rfl (by kernel_rfl) (by kernel_rfl) (by kernel_rfl) (by kernel_rfl) (fun _ _ _ h => h) (by kernel_rfl) (by assumption) ?_ ?_
            rotate_left 1
            · (intro wI hSI; (try dsimp only at hSI); go_simp; (try with_reducible rfl))
            simp only [Act.put, List.setIfInBounds_toArray, List.set_cons_zero, List.set_cons_succ]
            refine rtake (i := 1) (d := (some 90)) (v := ?_) rfl (by kernel_rfl) (by kernel_rfl) (by kernel_rfl) (by kernel_rfl) (fun _ _ _ h => h) (by kernel_rfl) (by assumption) ?_ ?_
            rotate_left 1
            · (intro wI hSI; (try dsimp only at hSI); go_simp; (try with_reducible rfl))
            simp only [Act.put, List.setIfInBounds_toArray, List.set_cons_zero, List.set_cons_succ]
            refine rtake (i := 2) (d := (some 91)) (v := ?_) rfl (by kernel_rfl) (by kernel_rfl) (by kernel_rfl) (by kernel_rfl) (fun _ _ _ h => h) (by kernel_rfl) (by assumption) ?_ ?_
            rotate_left 1
            · (intro wI hSI; (try dsimp only at hSI); go_simp; (try with_reducible rfl))
            simp only [Act.put, List.setIfInBounds_toArray, List.set_cons_zero, List.set_cons_succ]
            refine rtake (i := 3) (d := (some 92)) (v := ?_) rfl (by kernel_rfl) (by kernel_rfl) (by kernel_rfl) (by kernel_rfl) (fun _ _ _ h => h) (by kernel_rfl) (by assumption) ?_ ?_
            rotate_left 1
            · (intro wI hSI; (try dsimp only at hSI); go_simp; (try with_reducible rfl))
            simp only [Act.put, List.setIfInBounds_toArray, List.set_cons_zero, List.set_cons_succ]
            refine rcall (i := 4) (d := (some 93)) (by kernel_rfl) rfl (by kernel_rfl) (fun K hK => ?_)
            go_simp
            go_at_call 48; refine (HOr.out _).mono ?_; rintro e wq ⟨rfl, hbq, -⟩
            refine hK.out _ _ ?hS (fun hHeld => ?_)
            case hS => exact ⟨cell_later hbq hHeld.1, cell_later hbq hHeld.2.1, cell_later hbq hHeld.2.2.1, cell_later hbq hHeld.2.2.2.1, cell_later hbq hHeld.2.2.2.2.1, cell_later hbq hHeld.2.2.2.2.2.1, cell_later hbq hHeld.2.2.2.2.2.2.1, cell_later hbq hHeld.2.2.2.2.2.2.2.1, cell_later hbq hHeld.2.2.2.2.2.2.2.2.1, cell_later hbq hHeld.2.2.2.2.2.2.2.2.2.1, hHeld.2.2.2.2.2.2.2.2.2.2.trans (hbq.mono hHeld.2.2.2.2.2.2.2.2.2.2.size)⟩
            clear hK K
            simp only [Act.put, List.setIfInBounds_toArray, List.set_cons_zero, List.set_cons_succ]
            refine rtake (i := 5) (d := (some 94)) (v := ?_) rfl (by kernel_rfl) (by kernel_rfl) (by kernel_rfl) (by kernel_rfl) (fun _ _ _ h => h) (by kernel_rfl) (by assumption) ?_ ?_
            rotate_left 1
            · (intro wI hSI; (try dsimp only at hSI); go_simp; (try with_reducible rfl))
            simp only [Act.put, List.setIfInBounds_toArray, List.set_cons_zero, List.set_cons_succ]
            refine wpAnyH_done (by kernel_rfl) ?_ _
            have hbZ := hHeld.2.2.2.2.2.2.2.2.2.2
            have hO9 := hO.below hbZ
            have hR9 := hR.below hbZ
            have hE9 := hE.below hbZ
            have hb9 := below_next hb hbZ
            have hw9 := below_next hw hbZ
            obtain ⟨bf', of', hef, r0, r1, r2, r3, r4⟩ := (P2.out.below hw9).isSome
            cases hef
            clear hO hR hE hb hw hHeld hbZ hbq q0 q1 q2 q3 q4 hE_l hE_0 hE_1 hE_2 hE_3 hE_4
            by_cases hcv : 0 < cv
            · have HN2 : Hid (newF a1 (some f) = f) := HNy.out hcv
              clear HNy HNn
              have hE9_l := hE9.lt; have hE9_0 := hE9.cell 0; have hE9_1 := hE9.cell 1; have hE9_2 := hE9.cell 2; have hE9_3 := hE9.cell 3; have hE9_4 := hE9.cell 4; simp at hE9_0 hE9_1 hE9_2 hE9_3 hE9_4
              have hE9_f0 := hE9.frozen 0; have hE9_f1 := hE9.frozen 1; have hE9_f2 := hE9.frozen 2; have hE9_f3 := hE9.frozen 3; have hE9_f4 := hE9.frozen 4
              clear HOr k1 k2 k3 HP1 HP2 HP3
              go_wp2_with fail
              have hne : Unit → wr.heap.size ≠ eb := fun _ => by omega
              have hne2 : Unit → w.heap.size + 1 ≠ eb := fun _ => by omega
              have hEs := ((((hE9.set 0 (.string f.1)).set 1 (.int .i64 f.2.1)).set 2 (.int .i64 f.2.2.1)).set 3 (.string f.2.2.2.1)).set 4 (.string f.2.2.2.2)
              simp at hEs
              go_meet
              rw [HN2.out]
              refine ⟨hEs, ?_, ?_, ?_, ?_⟩
              · exact ((((hO9.setOther (p := ⟨eb, 0, none⟩) (Ne.symm (hne ())) _).setOther (p := ⟨eb, 1, none⟩) (Ne.symm (hne ())) _).setOther (p := ⟨eb, 2, none⟩) (Ne.symm (hne ())) _).setOther (p := ⟨eb, 3, none⟩) (Ne.symm (hne ())) _).setOther (p := ⟨eb, 4, none⟩) (Ne.symm (hne ())) _
              · exact ((((hR9.setOther (p := ⟨eb, 0, none⟩) (Ne.symm (hne2 ())) _).setOther (p := ⟨eb, 1, none⟩) (Ne.symm (hne2 ())) _).setOther (p := ⟨eb, 2, none⟩) (Ne.symm (hne2 ())) _).setOther (p := ⟨eb, 3, none⟩) (Ne.symm (hne2 ())) _).setOther (p := ⟨eb, 4, none⟩) (Ne.symm (hne2 ())) _
              · exact ((((hw9.setCell (by show wr.heap.size ≤ eb; omega) _).setCell (by show wr.heap.size ≤ eb; omega) _).setCell (by show wr.heap.size ≤ eb; omega) _).setCell (by show wr.heap.size ≤ eb; omega) _).setCell (by show wr.heap.size ≤ eb; omega) _
              · exact ((((hb9.setCell (by show w.heap.size ≤ eb; omega) _).setCell (by show w.heap.size ≤ eb; omega) _).setCell (by show w.heap.size ≤ eb; omega) _).setCell (by show w.heap.size ≤ eb; omega) _).setCell (by show w.heap.size ≤ eb; omega) _
            · have HN2 : Hid (newF a1 (some f) = a1) := HNn.out hcv
              have hcv' : cv ≤ 0 := by omega
              clear HNy HNn hcv
              go_wp2_with fail
              go_meet
              rw [HN2.out]
              exact ⟨hE9, hO9, hR9, hw9, hb9⟩
        case rest =>
          clear hE hO2 hR2 hw2 hb2 P2 Hbs
          obtain ⟨hE, hO, hR, hw, hb⟩ := hcut
          have hez : eb < wc.heap.size := hE.lt
          generalize (if fu.isSome = true then (3 : Int) else 2) = st at *
          generalize (fu.map (·.2.2.2.2)).getD (⟨#[]⟩ : ByteArray) = fx at *
          cases ba with
          | none =>
            obtain rfl := P3.out.isNone
            have He : Hid (en = (id, st, a1.2.2.2.2, fx, (newF a1 fu).2.1)) := HE.out
            clear HE
            generalize newF a1 fu = nw at *
            go_upto_region 18 with (fail)
            refine wp_region_held_drew (S := (fun _ => True)) (by kernel_rfl) ?hS (fun hHeld => ?_)
            case hS => trivial
            refine rtake (i := 0) (d := (some 98)) (v := ?_) rfl (by kernel_rfl) (by kernel_rfl) (by kernel_rfl) (by kernel_rfl) (fun _ _ _ h => h) (by kernel_rfl) (by assumption) ?_ ?_
            rotate_left 1
            · (intro wI hSI; (try dsimp only at hSI); go_simp; (try with_reducible rfl))
            simp only [Act.put, List.setIfInBounds_toArray, List.set_cons_zero, List.set_cons_succ]
            refine rtake (i := 1) (d := (some 99)) (v := ?_) rfl (by kernel_rfl) (by kernel_rfl) (by kernel_rfl) (by kernel_rfl) (fun _ _ _ h => h) (by kernel_rfl) (by assumption) ?_ ?_
            rotate_left 1
            · (intro wI hSI; (try dsimp only at hSI); go_simp; (try with_reducible rfl))
            simp only [Act.put, List.setIfInBounds_toArray, List.set_cons_zero, List.set_cons_succ]
            refine rtake (i := 2) (d := (some 100)) (v := ?_) rfl (by kernel_rfl) (by kernel_rfl) (by kernel_rfl) (by kernel_rfl) (fun _ _ _ h => h) (by kernel_rfl) (by assumption) ?_ ?_
            rotate_left 1
            · (intro wI hSI; (try dsimp only at hSI); go_simp; (try with_reducible rfl))
            simp only [Act.put, List.setIfInBounds_toArray, List.set_cons_zero, List.set_cons_succ]
            refine rskip (i := 3) (d := (some 101)) rfl (by kernel_rfl) (by kernel_rfl) (by kernel_rfl) (by kernel_rfl) (fun _ _ _ h => h) (by kernel_rfl) (by assumption) ?_
            simp only [Act.put, List.setIfInBounds_toArray, List.set_cons_zero, List.set_cons_succ]
            refine rskip (i := 4) (d := (some 102)) rfl (by kernel_rfl) (by kernel_rfl) (by kernel_rfl) (by kernel_rfl) (fun _ _ _ h => h) (by kernel_rfl) (by assumption) ?_
            simp only [Act.put, List.setIfInBounds_toArray, List.set_cons_zero, List.set_cons_succ]
            refine rskip (i := 5) (d := (some 103)) rfl (by kernel_rfl) (by kernel_rfl) (by kernel_rfl) (by kernel_rfl) (fun _ _ _ h => h) (by kernel_rfl) (by assumption) ?_
            simp only [Act.put, List.setIfInBounds_toArray, List.set_cons_zero, List.set_cons_succ]
            refine rskip (i := 6) (d := (some 104)) rfl (by kernel_rfl) (by kernel_rfl) (by kernel_rfl) (by kernel_rfl) (fun _ _ _ h => h) (by kernel_rfl) (by assumption) ?_
            simp only [Act.put, List.setIfInBounds_toArray, List.set_cons_zero, List.set_cons_succ]
            refine rcall (i := 7) (d := (some 105)) (by kernel_rfl) rfl (by kernel_rfl) (fun K hK => ?_)
            rw [if_neg (by rw [show Region.wanted _ _ = false by kernel_rfl]; decide)]
            refine hK.out _ _ ?hS (fun hHeld => ?_)
            case hS => trivial
            clear hK K
            simp only [Act.put, List.setIfInBounds_toArray, List.set_cons_zero, List.set_cons_succ]
            refine rskip (i := 8) (d := (some 106)) rfl (by kernel_rfl) (by kernel_rfl) (by kernel_rfl) (by kernel_rfl) (fun _ _ _ h => h) (by kernel_rfl) (by assumption) ?_
            simp only [Act.put, List.setIfInBounds_toArray, List.set_cons_zero, List.set_cons_succ]
            refine rtake (i := 9) (d := (some 107)) (v := ?_) rfl (by kernel_rfl) (by kernel_rfl) (by kernel_rfl) (by kernel_rfl) (fun _ _ _ h => h) (by kernel_rfl) (by assumption) ?_ ?_
            rotate_left 1
            · (intro wI hSI; (try dsimp only at hSI); go_simp; (try with_reducible rfl))
            simp only [Act.put, List.setIfInBounds_toArray, List.set_cons_zero, List.set_cons_succ]
            refine wpAnyH_done (by kernel_rfl) ?_ _
            replace hE := hE.drew
            replace hO := hO.drew
            replace hR := hR.drew
            replace hb := hb.drew
            clear hw hHeld
            generalize wc.drew = W5 at *
            have hE_l := hE.lt; have hE_0 := hE.cell 0; have hE_1 := hE.cell 1; have hE_2 := hE.cell 2; have hE_3 := hE.cell 3; have hE_4 := hE.cell 4; simp at hE_0 hE_1 hE_2 hE_3 hE_4
            have hO_l := hO.lt; have hO_0 := hO.cell 0; have hO_1 := hO.cell 1; have hO_2 := hO.cell 2; have hO_3 := hO.cell 3; have hO_4 := hO.cell 4; simp at hO_0 hO_1 hO_2 hO_3 hO_4
            have hO_f0 := hO.frozen 0; have hO_f1 := hO.frozen 1; have hO_f2 := hO.frozen 2; have hO_f3 := hO.frozen 3; have hO_f4 := hO.frozen 4
            have hO4 := hO.set 4 (.int .i64 nw.2.1)
            simp at hO4
            have hR4 := hR.setOther (p := ⟨wr.heap.size, 4, none⟩) (by show wr.heap.size ≠ w.heap.size + 1; omega) (.int .i64 nw.2.1)
            have hb4 : Below w.heap.size w (W5.setCell ⟨wr.heap.size, 4, none⟩ (.int .i64 nw.2.1)) := hb.setCell (by show w.heap.size ≤ wr.heap.size; omega) _
            go_upto_region 21 with (fail)
            clear hO_l hO_0 hO_1 hO_2 hO_3 hO_4 hO_f0 hO_f1 hO_f2 hO_f3 hO_f4 hE_l hE_0 hE_1 hE_2 hE_3 hE_4 hE hO hR hb
            generalize W5.setCell ⟨wr.heap.size, 4, none⟩ (.int .i64 nw.2.1) = W9 at *
            have hO := hO4
            have hR := hR4
            have hb := hb4
            clear hO4 hR4 hb4
            have hR_l := hR.lt; have hR_0 := hR.cell 0; have hR_1 := hR.cell 1; have hR_2 := hR.cell 2; have hR_3 := hR.cell 3; have hR_4 := hR.cell 4; simp at hR_0 hR_1 hR_2 hR_3 hR_4
            have hR_f0 := hR.frozen 0; have hR_f1 := hR.frozen 1; have hR_f2 := hR.frozen 2; have hR_f3 := hR.frozen 3; have hR_f4 := hR.frozen 4
            have hO_l := hO.lt; have hO_0 := hO.cell 0; have hO_1 := hO.cell 1; have hO_2 := hO.cell 2; have hO_3 := hO.cell 3; have hO_4 := hO.cell 4; simp at hO_0 hO_1 hO_2 hO_3 hO_4
            go_wp2_with fail
            refine bodyPost_ret (v := entAgg (id, st, a1.2.2.2.2, fx, nw.2.1)) (by simp only [results, Tryz.results17]; go_simp; first | rfl | simp [entAgg]) rfl ?_
            refine ⟨?_, by (repeat' (first | exact Below.refl _ _ | assumption | refine Below.setCell ?_ ?_ _ | refine below_drewN ?_ _ | refine Below.drew ?_ | refine Below.alloc ?_ ?_ _ | (with_reducible refine Below.trans ?_ (Below.mono hb ?_)) | (with_reducible refine Below.trans ?_ (Below.mono hb0 ?_)) | (with_reducible refine Below.trans ?_ (Below.mono hb1 ?_)) | (with_reducible refine Below.trans ?_ (Below.mono hb2 ?_)) | (with_reducible refine Below.trans ?_ (Below.mono hb3 ?_)) | (with_reducible refine Below.trans ?_ (Below.mono hb4 ?_)) | (with_reducible refine Below.trans ?_ (Below.mono hb5 ?_)) | (with_reducible refine Below.trans ?_ (Below.mono hb6 ?_)) | (with_reducible refine Below.trans ?_ (Below.mono hb7 ?_)) | (with_reducible refine Below.trans ?_ (Below.mono hb8 ?_)) | (with_reducible refine Below.trans ?_ (Below.mono hb9 ?_)) | (with_reducible refine Below.trans ?_ (Below.mono hb10 ?_)) | (with_reducible refine Below.trans ?_ (Below.mono hb11 ?_)) | (with_reducible refine Below.trans ?_ (Below.mono hb12 ?_)) | (with_reducible refine Below.trans ?_ (Below.mono hb13 ?_)) | (with_reducible refine Below.trans ?_ (Below.mono hb14 ?_)) | (with_reducible refine Below.trans ?_ (Below.mono hb15 ?_)) | omega | (simp; done) | (simp; omega)))⟩
            rw [He.out]
          | some q =>
            obtain ⟨bq, oq, rfl, q0, q1, q2, q3, q4⟩ := (P3.out.below hw).isSome
            replace HE : Hid (en = (id, if decide (0 < cmpO q (newF a1 fu)) = true then 4 else st, a1.2.2.2.2, fx, (newF (newF a1 fu) (some q)).2.1)) := HE.out
            generalize newF a1 fu = nw at *
            have HOr := Lib.hid (fun W => orderA_any q nw W)
            have HNy := Lib.hid (fun h => newF_yes (a := nw) (x := q) h)
            have HNn := Lib.hid (fun h => newF_no (a := nw) (x := q) h)
            generalize cmpO q nw = cv at *
            have hE_l := hE.lt; have hE_0 := hE.cell 0; have hE_1 := hE.cell 1; have hE_2 := hE.cell 2; have hE_3 := hE.cell 3; have hE_4 := hE.cell 4; simp at hE_0 hE_1 hE_2 hE_3 hE_4
            go_upto_region 18 with (fail)
            refine wp_region_held_drew (S := (fun wx => wx.cell? ⟨bq, oq, none⟩ = some (.string q.1) ∧ wx.cell? ⟨bq, oq + 1, none⟩ = some (.int .i64 q.2.1) ∧ wx.cell? ⟨bq, oq + 2, none⟩ = some (.int .i64 q.2.2.1) ∧ wx.cell? ⟨bq, oq + 3, none⟩ = some (.string q.2.2.2.1) ∧ wx.cell? ⟨bq, oq + 4, none⟩ = some (.string q.2.2.2.2) ∧ wx.cell? ⟨eb, 0, none⟩ = some (.string nw.1) ∧ wx.cell? ⟨eb, 1, none⟩ = some (.int .i64 nw.2.1) ∧ wx.cell? ⟨eb, 2, none⟩ = some (.int .i64 nw.2.2.1) ∧ wx.cell? ⟨eb, 3, none⟩ = some (.string nw.2.2.2.1) ∧ wx.cell? ⟨eb, 4, none⟩ = some (.string nw.2.2.2.2) ∧ Below wc.heap.size wc wx)) (by kernel_rfl) ?hS (fun hHeld => ?_)
            case hS => exact ⟨q0, q1, q2, q3, q4, hE_0, hE_1, hE_2, hE_3, hE_4, (Below.refl _ _).drew⟩
            refine rtake (i := 0) (d := (some 98)) (v := ?_) rfl (by kernel_rfl) (by kernel_rfl) (by kernel_rfl) (by kernel_rfl) (fun _ _ _ h => h) (by kernel_rfl) (by assumption) ?_ ?_
            rotate_left 1
            · (intro wI hSI; (try dsimp only at hSI); go_simp; (try with_reducible rfl))
            simp only [Act.put, List.setIfInBounds_toArray, List.set_cons_zero, List.set_cons_succ]
            refine rtake (i := 1) (d := (some 99)) (v := ?_) rfl (by kernel_rfl) (by kernel_rfl) (by kernel_rfl) (by kernel_rfl) (fun _ _ _ h => h) (by kernel_rfl) (by assumption) ?_ ?_
            rotate_left 1
            · (intro wI hSI; (try dsimp only at hSI); go_simp; (try with_reducible rfl))
            simp only [Act.put, List.setIfInBounds_toArray, List.set_cons_zero, List.set_cons_succ]
            refine rtake (i := 2) (d := (some 100)) (v := ?_) rfl (by kernel_rfl) (by kernel_rfl) (by kernel_rfl) (by kernel_rfl) (fun _ _ _ h => h) (by kernel_rfl) (by assumption) ?_ ?_
            rotate_left 1
            · (intro wI hSI; (try dsimp only at hSI); go_simp; (try with_reducible rfl))
            simp only [Act.put, List.setIfInBounds_toArray, List.set_cons_zero, List.set_cons_succ]
            refine rtake (i := 3) (d := (some 101)) (v := ?_) rfl (by kernel_rfl) (by kernel_rfl) (by kernel_rfl) (by kernel_rfl) (fun _ _ _ h => h) (by kernel_rfl) (by assumption) ?_ ?_
            rotate_left 1
            · (intro wI hSI; (try dsimp only at hSI); go_simp; (try with_reducible rfl))
            simp only [Act.put, List.setIfInBounds_toArray, List.set_cons_zero, List.set_cons_succ]
            refine rtake (i := 4) (d := (some 102)) (v := ?_) rfl (by kernel_rfl) (by kernel_rfl) (by kernel_rfl) (by kernel_rfl) (fun _ _ _ h => h) (by kernel_rfl) (by assumption) ?_ ?_
            rotate_left 1
            · (intro wI hSI; (try dsimp only at hSI); go_simp; (try with_reducible rfl))
            simp only [Act.put, List.setIfInBounds_toArray, List.set_cons_zero, List.set_cons_succ]
            refine rtake (i := 5) (d := (some 103)) (v := ?_) rfl (by kernel_rfl) (by kernel_rfl) (by kernel_rfl) (by kernel_rfl) (fun _ _ _ h => h) (by kernel_rfl) (by assumption) ?_ ?_
            rotate_left 1
            · (intro wI hSI; (try dsimp only at hSI); go_simp; (try with_reducible rfl))
            simp only [Act.put, List.setIfInBounds_toArray, List.set_cons_zero, List.set_cons_succ]
            refine rtake (i := 6) (d := (some 104)) (v := ?_) rfl (by kernel_rfl) (by kernel_rfl) (by kernel_rfl) (by kernel_rfl) (fun _ _ _ h => h) (by kernel_rfl) (by assumption) ?_ ?_
            rotate_left 1
            · (intro wI hSI; (try dsimp only at hSI); go_simp; (try with_reducible rfl))
            simp only [Act.put, List.setIfInBounds_toArray, List.set_cons_zero, List.set_cons_succ]
            refine rcall (i := 7) (d := (some 105)) (by kernel_rfl) rfl (by kernel_rfl) (fun K hK => ?_)
            rw [if_pos (by kernel_rfl)]; go_simp; go_at_call 48; refine (HOr.out _).mono ?_; rintro e wq ⟨rfl, hbq, -⟩
            refine hK.out _ _ ?hS (fun hHeld => ?_)
            case hS => exact ⟨cell_later hbq hHeld.1, cell_later hbq hHeld.2.1, cell_later hbq hHeld.2.2.1, cell_later hbq hHeld.2.2.2.1, cell_later hbq hHeld.2.2.2.2.1, cell_later hbq hHeld.2.2.2.2.2.1, cell_later hbq hHeld.2.2.2.2.2.2.1, cell_later hbq hHeld.2.2.2.2.2.2.2.1, cell_later hbq hHeld.2.2.2.2.2.2.2.2.1, cell_later hbq hHeld.2.2.2.2.2.2.2.2.2.1, hHeld.2.2.2.2.2.2.2.2.2.2.trans (hbq.mono hHeld.2.2.2.2.2.2.2.2.2.2.size)⟩
            clear hK K
            simp only [Act.put, List.setIfInBounds_toArray, List.set_cons_zero, List.set_cons_succ]
            refine rtake (i := 8) (d := (some 106)) (v := ?_) rfl (by kernel_rfl) (by kernel_rfl) (by kernel_rfl) (by kernel_rfl) (fun _ _ _ h => h) (by kernel_rfl) (by assumption) ?_ ?_
            rotate_left 1
            · (intro wI hSI; (try dsimp only at hSI); go_simp; (try with_reducible rfl))
            simp only [Act.put, List.setIfInBounds_toArray, List.set_cons_zero, List.set_cons_succ]
            refine rtake (i := 9) (d := (some 107)) (v := ?_) rfl (by kernel_rfl) (by kernel_rfl) (by kernel_rfl) (by kernel_rfl) (fun _ _ _ h => h) (by kernel_rfl) (by assumption) ?_ ?_
            rotate_left 1
            · (intro wI hSI; (try dsimp only at hSI); go_simp; (try with_reducible rfl))
            simp only [Act.put, List.setIfInBounds_toArray, List.set_cons_zero, List.set_cons_succ]
            refine wpAnyH_done (by kernel_rfl) ?_ _
            have hbZ := hHeld.2.2.2.2.2.2.2.2.2.2
            have hO9 := hO.below hbZ
            have hR9 := hR.below hbZ
            have hE9 := hE.below hbZ
            have hb9 := below_next hb hbZ
            have hw9 := below_next hw hbZ
            obtain ⟨bq', oq', hef, r0, r1, r2, r3, r4⟩ := (P3.out.below hw9).isSome
            cases hef
            clear hO hR hE hb hw hHeld hbZ hbq q0 q1 q2 q3 q4 hE_l hE_0 hE_1 hE_2 hE_3 hE_4
            by_cases hcv : 0 < cv
            · have He : Hid (en = (id, 4, a1.2.2.2.2, fx, q.2.1)) := by show _ = _; rw [HE.out, if_pos (decide_eq_true hcv), HNy.out hcv]
              clear HNy HNn HE
              have hO9_l := hO9.lt; have hO9_0 := hO9.cell 0; have hO9_1 := hO9.cell 1; have hO9_2 := hO9.cell 2; have hO9_3 := hO9.cell 3; have hO9_4 := hO9.cell 4; simp at hO9_0 hO9_1 hO9_2 hO9_3 hO9_4
              have hO9_f0 := hO9.frozen 0; have hO9_f1 := hO9.frozen 1; have hO9_f2 := hO9.frozen 2; have hO9_f3 := hO9.frozen 3; have hO9_f4 := hO9.frozen 4
              have hE9_l := hE9.lt; have hE9_0 := hE9.cell 0; have hE9_1 := hE9.cell 1; have hE9_2 := hE9.cell 2; have hE9_3 := hE9.cell 3; have hE9_4 := hE9.cell 4; simp at hE9_0 hE9_1 hE9_2 hE9_3 hE9_4
              have hE9_f0 := hE9.frozen 0; have hE9_f1 := hE9.frozen 1; have hE9_f2 := hE9.frozen 2; have hE9_f3 := hE9.frozen 3; have hE9_f4 := hE9.frozen 4
              clear k1 k2 k3 HP1 HP2 HP3 HOr
              go_upto_region 19 with (fail)
              (try simp only [show decide (0 < cv) = true from decide_eq_true hcv])
              (try simp only [show decide (cv ≤ 0) = false from decide_eq_false (by omega), Bool.not_false])
              refine wp_region_held_drew (S := (fun wx => wx.cell? ⟨bq, oq, none⟩ = some (.string q.1) ∧ wx.cell? ⟨bq, oq + 1, none⟩ = some (.int .i64 q.2.1) ∧ wx.cell? ⟨bq, oq + 2, none⟩ = some (.int .i64 q.2.2.1) ∧ wx.cell? ⟨bq, oq + 3, none⟩ = some (.string q.2.2.2.1) ∧ wx.cell? ⟨bq, oq + 4, none⟩ = some (.string q.2.2.2.2))) (by kernel_rfl) ?hS (fun hHeld => ?_)
              case hS => exact ⟨r0, r1, r2, r3, r4⟩
              refine rtake (i := 0) (d := (some 108)) (v := ?_) rfl (by kernel_rfl) (by kernel_rfl) (by kernel_rfl) (by kernel_rfl) (fun _ _ _ h => h) (by kernel_rfl) (by assumption) ?_ ?_
              rotate_left 1
              · (intro wI hSI; (try dsimp only at hSI); go_simp; (try with_reducible rfl))
              simp only [Act.put, List.setIfInBounds_toArray, List.set_cons_zero, List.set_cons_succ]
              refine rtake (i := 1) (d := (some 109)) (v := ?_) rfl (by kernel_rfl) (by kernel_rfl) (by kernel_rfl) (by kernel_rfl) (fun _ _ _ h => h) (by kernel_rfl) (by assumption) ?_ ?_
              rotate_left 1
              · (intro wI hSI; (try dsimp only at hSI); go_simp; (try with_reducible rfl))
              simp only [Act.put, List.setIfInBounds_toArray, List.set_cons_zero, List.set_cons_succ]
              refine rtake (i := 2) (d := (some 110)) (v := ?_) rfl (by kernel_rfl) (by kernel_rfl) (by kernel_rfl) (by kernel_rfl) (fun _ _ _ h => h) (by kernel_rfl) (by assumption) ?_ ?_
              rotate_left 1
              · (intro wI hSI; (try dsimp only at hSI); go_simp; (try with_reducible rfl))
              simp only [Act.put, List.setIfInBounds_toArray, List.set_cons_zero, List.set_cons_succ]
              refine rtake (i := 3) (d := (some 111)) (v := ?_) rfl (by kernel_rfl) (by kernel_rfl) (by kernel_rfl) (by kernel_rfl) (fun _ _ _ h => h) (by kernel_rfl) (by assumption) ?_ ?_
              rotate_left 1
              · (intro wI hSI; (try dsimp only at hSI); go_simp; (try with_reducible rfl))
              simp only [Act.put, List.setIfInBounds_toArray, List.set_cons_zero, List.set_cons_succ]
              refine rcall (i := 4) (d := none) (by kernel_rfl) rfl (by kernel_rfl) (fun K hK => ?_)
              go_simp
              refine hK.out undef _ ?hS (fun hHeld => ?_)
              case hS => exact (P3.out.below (hw9.setCell (by show wr.heap.size ≤ wr.heap.size; omega) _).drew).cells5
              clear hK K
              simp only [Act.put, List.setIfInBounds_toArray, List.set_cons_zero, List.set_cons_succ]
              refine rcall (i := 5) (d := none) (by kernel_rfl) rfl (by kernel_rfl) (fun K hK => ?_)
              go_simp
              refine hK.out undef _ ?hS (fun hHeld => ?_)
              case hS => exact (P3.out.below ((((((hw9.setCell (by show wr.heap.size ≤ wr.heap.size; omega) _).setCell (by show wr.heap.size ≤ eb; omega) _).setCell (by show wr.heap.size ≤ eb; omega) _).setCell (by show wr.heap.size ≤ eb; omega) _).setCell (by show wr.heap.size ≤ eb; omega) _).setCell (by show wr.heap.size ≤ eb; omega) _).drew).cells5
              clear hK K
              simp only [Act.put, List.setIfInBounds_toArray, List.set_cons_zero, List.set_cons_succ]
              refine wpAnyH_done (by kernel_rfl) ?_ _
              clear hO9_l hO9_0 hO9_1 hO9_2 hO9_3 hO9_4 hO9_f0 hO9_f1 hO9_f2 hO9_f3 hO9_f4 hE9_l hE9_0 hE9_1 hE9_2 hE9_3 hE9_4 hE9_f0 hE9_f1 hE9_f2 hE9_f3 hE9_f4 r0 r1 r2 r3 r4 hHeld
              have hne : Unit → wr.heap.size ≠ eb := fun _ => by omega
              have hne2 : Unit → w.heap.size + 1 ≠ eb := fun _ => by omega
              have hE8 := hE9.setOther (p := ⟨wr.heap.size, 1, none⟩) (hne ()) (.int .i64 4)
              have hEs := ((((hE8.set 0 (.string q.1)).set 1 (.int .i64 q.2.1)).set 2 (.int .i64 q.2.2.1)).set 3 (.string q.2.2.2.1)).set 4 (.string q.2.2.2.2)
              simp at hEs
              have hO8 := hO9.set 1 (.int .i64 4)
              simp at hO8
              have hOs := ((((hO8.setOther (p := ⟨eb, 0, none⟩) (Ne.symm (hne ())) (.string q.1)).setOther (p := ⟨eb, 1, none⟩) (Ne.symm (hne ())) (.int .i64 q.2.1)).setOther (p := ⟨eb, 2, none⟩) (Ne.symm (hne ())) (.int .i64 q.2.2.1)).setOther (p := ⟨eb, 3, none⟩) (Ne.symm (hne ())) (.string q.2.2.2.1)).setOther (p := ⟨eb, 4, none⟩) (Ne.symm (hne ())) (.string q.2.2.2.2)
              have hR8 := hR9.setOther (p := ⟨wr.heap.size, 1, none⟩) (by show wr.heap.size ≠ w.heap.size + 1; omega) (.int .i64 4)
              have hRs := ((((hR8.setOther (p := ⟨eb, 0, none⟩) (Ne.symm (hne2 ())) (.string q.1)).setOther (p := ⟨eb, 1, none⟩) (Ne.symm (hne2 ())) (.int .i64 q.2.1)).setOther (p := ⟨eb, 2, none⟩) (Ne.symm (hne2 ())) (.int .i64 q.2.2.1)).setOther (p := ⟨eb, 3, none⟩) (Ne.symm (hne2 ())) (.string q.2.2.2.1)).setOther (p := ⟨eb, 4, none⟩) (Ne.symm (hne2 ())) (.string q.2.2.2.2)
              have hbs : Below w.heap.size w ((((((wq.setCell ⟨wr.heap.size, 1, none⟩ (.int .i64 4)).setCell ⟨eb, 0, none⟩ (.string q.1)).setCell ⟨eb, 1, none⟩ (.int .i64 q.2.1)).setCell ⟨eb, 2, none⟩ (.int .i64 q.2.2.1)).setCell ⟨eb, 3, none⟩ (.string q.2.2.2.1)).setCell ⟨eb, 4, none⟩ (.string q.2.2.2.2)) := (((((hb9.setCell (by show w.heap.size ≤ wr.heap.size; omega) _).setCell (by show w.heap.size ≤ eb; omega) _).setCell (by show w.heap.size ≤ eb; omega) _).setCell (by show w.heap.size ≤ eb; omega) _).setCell (by show w.heap.size ≤ eb; omega) _).setCell (by show w.heap.size ≤ eb; omega) _
              have hE := hEs.drew
              have hO := hOs.drew
              have hR := hRs.drew
              have hb := hbs.drew
              clear hEs hOs hRs hbs hE8 hO8 hR8 hE9 hO9 hR9 hb9 hw9 hne hne2
              generalize ((((((wq.setCell ⟨wr.heap.size, 1, none⟩ (.int .i64 4)).setCell ⟨eb, 0, none⟩ (.string q.1)).setCell ⟨eb, 1, none⟩ (.int .i64 q.2.1)).setCell ⟨eb, 2, none⟩ (.int .i64 q.2.2.1)).setCell ⟨eb, 3, none⟩ (.string q.2.2.2.1)).setCell ⟨eb, 4, none⟩ (.string q.2.2.2.2)).drew = W5 at *
              have hE_l := hE.lt; have hE_0 := hE.cell 0; have hE_1 := hE.cell 1; have hE_2 := hE.cell 2; have hE_3 := hE.cell 3; have hE_4 := hE.cell 4; simp at hE_0 hE_1 hE_2 hE_3 hE_4
              have hO_l := hO.lt; have hO_0 := hO.cell 0; have hO_1 := hO.cell 1; have hO_2 := hO.cell 2; have hO_3 := hO.cell 3; have hO_4 := hO.cell 4; simp at hO_0 hO_1 hO_2 hO_3 hO_4
              have hO_f0 := hO.frozen 0; have hO_f1 := hO.frozen 1; have hO_f2 := hO.frozen 2; have hO_f3 := hO.frozen 3; have hO_f4 := hO.frozen 4
              have hO4 := hO.set 4 (.int .i64 q.2.1)
              simp at hO4
              have hR4 := hR.setOther (p := ⟨wr.heap.size, 4, none⟩) (by show wr.heap.size ≠ w.heap.size + 1; omega) (.int .i64 q.2.1)
              have hb4 : Below w.heap.size w (W5.setCell ⟨wr.heap.size, 4, none⟩ (.int .i64 q.2.1)) := hb.setCell (by show w.heap.size ≤ wr.heap.size; omega) _
              go_upto_region 21 with (fail)
              clear hO_l hO_0 hO_1 hO_2 hO_3 hO_4 hO_f0 hO_f1 hO_f2 hO_f3 hO_f4 hE_l hE_0 hE_1 hE_2 hE_3 hE_4 hE hO hR hb
              generalize W5.setCell ⟨wr.heap.size, 4, none⟩ (.int .i64 q.2.1) = W9 at *
              have hO := hO4
              have hR := hR4
              have hb := hb4
              clear hO4 hR4 hb4
              have hR_l := hR.lt; have hR_0 := hR.cell 0; have hR_1 := hR.cell 1; have hR_2 := hR.cell 2; have hR_3 := hR.cell 3; have hR_4 := hR.cell 4; simp at hR_0 hR_1 hR_2 hR_3 hR_4
              have hR_f0 := hR.frozen 0; have hR_f1 := hR.frozen 1; have hR_f2 := hR.frozen 2; have hR_f3 := hR.frozen 3; have hR_f4 := hR.frozen 4
              have hO_l := hO.lt; have hO_0 := hO.cell 0; have hO_1 := hO.cell 1; have hO_2 := hO.cell 2; have hO_3 := hO.cell 3; have hO_4 := hO.cell 4; simp at hO_0 hO_1 hO_2 hO_3 hO_4
              go_wp2_with fail
              refine bodyPost_ret (v := entAgg (id, 4, a1.2.2.2.2, fx, q.2.1)) (by simp only [results, Tryz.results17]; go_simp; first | rfl | simp [entAgg]) rfl ?_
              refine ⟨?_, by (repeat' (first | exact Below.refl _ _ | assumption | refine Below.setCell ?_ ?_ _ | refine below_drewN ?_ _ | refine Below.drew ?_ | refine Below.alloc ?_ ?_ _ | (with_reducible refine Below.trans ?_ (Below.mono hb ?_)) | (with_reducible refine Below.trans ?_ (Below.mono hb0 ?_)) | (with_reducible refine Below.trans ?_ (Below.mono hb1 ?_)) | (with_reducible refine Below.trans ?_ (Below.mono hb2 ?_)) | (with_reducible refine Below.trans ?_ (Below.mono hb3 ?_)) | (with_reducible refine Below.trans ?_ (Below.mono hb4 ?_)) | (with_reducible refine Below.trans ?_ (Below.mono hb5 ?_)) | (with_reducible refine Below.trans ?_ (Below.mono hb6 ?_)) | (with_reducible refine Below.trans ?_ (Below.mono hb7 ?_)) | (with_reducible refine Below.trans ?_ (Below.mono hb8 ?_)) | (with_reducible refine Below.trans ?_ (Below.mono hb9 ?_)) | (with_reducible refine Below.trans ?_ (Below.mono hb10 ?_)) | (with_reducible refine Below.trans ?_ (Below.mono hb11 ?_)) | (with_reducible refine Below.trans ?_ (Below.mono hb12 ?_)) | (with_reducible refine Below.trans ?_ (Below.mono hb13 ?_)) | (with_reducible refine Below.trans ?_ (Below.mono hb14 ?_)) | (with_reducible refine Below.trans ?_ (Below.mono hb15 ?_)) | omega | (simp; done) | (simp; omega)))⟩
              rw [He.out]
            · have He : Hid (en = (id, st, a1.2.2.2.2, fx, nw.2.1)) := by show _ = _; rw [HE.out, if_neg (by rw [decide_eq_false hcv]; decide), HNn.out hcv]
              have hcv' : cv ≤ 0 := by omega
              clear HNy HNn HE hcv r0 r1 r2 r3 r4
              have hE := hE9
              have hO := hO9
              have hR := hR9
              have hb := hb9
              clear hE9 hO9 hR9 hb9 hw9
              have hE_l := hE.lt; have hE_0 := hE.cell 0; have hE_1 := hE.cell 1; have hE_2 := hE.cell 2; have hE_3 := hE.cell 3; have hE_4 := hE.cell 4; simp at hE_0 hE_1 hE_2 hE_3 hE_4
              have hO_l := hO.lt; have hO_0 := hO.cell 0; have hO_1 := hO.cell 1; have hO_2 := hO.cell 2; have hO_3 := hO.cell 3; have hO_4 := hO.cell 4; simp at hO_0 hO_1 hO_2 hO_3 hO_4
              have hO_f0 := hO.frozen 0; have hO_f1 := hO.frozen 1; have hO_f2 := hO.frozen 2; have hO_f3 := hO.frozen 3; have hO_f4 := hO.frozen 4
              have hO4 := hO.set 4 (.int .i64 nw.2.1)
              simp at hO4
              have hR4 := hR.setOther (p := ⟨wr.heap.size, 4, none⟩) (by show wr.heap.size ≠ w.heap.size + 1; omega) (.int .i64 nw.2.1)
              have hb4 : Below w.heap.size w (wq.setCell ⟨wr.heap.size, 4, none⟩ (.int .i64 nw.2.1)) := hb.setCell (by show w.heap.size ≤ wr.heap.size; omega) _
              go_upto_region 21 with (fail)
              clear hO_l hO_0 hO_1 hO_2 hO_3 hO_4 hO_f0 hO_f1 hO_f2 hO_f3 hO_f4 hE_l hE_0 hE_1 hE_2 hE_3 hE_4 hE hO hR hb
              generalize wq.setCell ⟨wr.heap.size, 4, none⟩ (.int .i64 nw.2.1) = W9 at *
              have hO := hO4
              have hR := hR4
              have hb := hb4
              clear hO4 hR4 hb4
              have hR_l := hR.lt; have hR_0 := hR.cell 0; have hR_1 := hR.cell 1; have hR_2 := hR.cell 2; have hR_3 := hR.cell 3; have hR_4 := hR.cell 4; simp at hR_0 hR_1 hR_2 hR_3 hR_4
              have hR_f0 := hR.frozen 0; have hR_f1 := hR.frozen 1; have hR_f2 := hR.frozen 2; have hR_f3 := hR.frozen 3; have hR_f4 := hR.frozen 4
              have hO_l := hO.lt; have hO_0 := hO.cell 0; have hO_1 := hO.cell 1; have hO_2 := hO.cell 2; have hO_3 := hO.cell 3; have hO_4 := hO.cell 4; simp at hO_0 hO_1 hO_2 hO_3 hO_4
              go_wp2_with fail
              refine bodyPost_ret (v := entAgg (id, st, a1.2.2.2.2, fx, nw.2.1)) (by simp only [results, Tryz.results17]; go_simp; first | rfl | simp [entAgg]) rfl ?_
              refine ⟨?_, by (repeat' (first | exact Below.refl _ _ | assumption | refine Below.setCell ?_ ?_ _ | refine below_drewN ?_ _ | refine Below.drew ?_ | refine Below.alloc ?_ ?_ _ | (with_reducible refine Below.trans ?_ (Below.mono hb ?_)) | (with_reducible refine Below.trans ?_ (Below.mono hb0 ?_)) | (with_reducible refine Below.trans ?_ (Below.mono hb1 ?_)) | (with_reducible refine Below.trans ?_ (Below.mono hb2 ?_)) | (with_reducible refine Below.trans ?_ (Below.mono hb3 ?_)) | (with_reducible refine Below.trans ?_ (Below.mono hb4 ?_)) | (with_reducible refine Below.trans ?_ (Below.mono hb5 ?_)) | (with_reducible refine Below.trans ?_ (Below.mono hb6 ?_)) | (with_reducible refine Below.trans ?_ (Below.mono hb7 ?_)) | (with_reducible refine Below.trans ?_ (Below.mono hb8 ?_)) | (with_reducible refine Below.trans ?_ (Below.mono hb9 ?_)) | (with_reducible refine Below.trans ?_ (Below.mono hb10 ?_)) | (with_reducible refine Below.trans ?_ (Below.mono hb11 ?_)) | (with_reducible refine Below.trans ?_ (Below.mono hb12 ?_)) | (with_reducible refine Below.trans ?_ (Below.mono hb13 ?_)) | (with_reducible refine Below.trans ?_ (Below.mono hb14 ?_)) | (with_reducible refine Below.trans ?_ (Below.mono hb15 ?_)) | omega | (simp; done) | (simp; omega)))⟩
              rw [He.out]
end Go.Proofs.YtifflpilnpcmoaaGreatDoor

/-! EntriesOf: of the reference. -/
/-! EntriesOf: of the reference. -/
namespace Go.Proofs.YtifflpilnpcmoaaGreatDoor
open Go.RowKit
set_option linter.unusedVariables false
set_option linter.unusedSimpArgs false

theorem infoStrS : (Tryz.prog.info? 9).map (fun i => (i.zero, i.size, i.bytes)) = some (some (.string ⟨#[]⟩), 1, 16) := by kernel_rfl
set_option maxRecDepth 100000 in
set_option maxHeartbeats 4000000 in
theorem entriesR_any (o a f : Int) (s : List Skill) (a3 : Option Addr) (c3 : Nat) (l : List Arv) (la : Option Addr) (cap : Nat) (t : Int) (w : World) (h : CallIn a f s a3 l la w) (hkd : ∀ x ∈ l, kindB x.2.2.1 = true) :
    Calls Tryz.prog 19 #[callAgg o a f s a3 c3, .slice la l.length cap, .int .i64 t] w (GivesOwn 35 (((keysS (l.map (·.1))).map (fun id => entR (cntB o a f s) l id t)).filter isEnt) w) := by
  have HEn := Lib.hid (fun (id : ByteArray) (W : World) (h : CallIn a f s a3 l la W) => entryR_any o a f s a3 c3 l la cap id t W h.hs h.hsl h.hbd h.ab.1 h.ab.2.1 h.ab.2.2.1 h.ab.2.2.2 h.hl h.hll hkd)
  have Hll := Lib.hid h.hll
  have Hh := Lib.hid h
  generalize entR (cntB o a f s) l = er at *
  generalize hvl : ((keysS (l.map (·.1))).map (fun id => er id t)).filter isEnt = vl
  have HVl := Lib.hid hvl
  have hll9 := Hll.out
  clear hvl
  unfold callAgg at *
  have hC0 := Box.new w 28 #[.int .i64 o, .int .i64 a, .int .i64 f, .slice a3 s.length c3]
  have hb0 : Below w.heap.size w (w.alloc (.cells #[.int .i64 o, .int .i64 a, .int .i64 f, .slice a3 s.length c3] 28)) := by (repeat' (first | exact Below.refl _ _ | assumption | refine Below.setCell ?_ ?_ _ | refine below_drewN ?_ _ | refine Below.drew ?_ | refine Below.alloc ?_ ?_ _ | (with_reducible refine Below.trans ?_ (Below.mono hb ?_)) | (with_reducible refine Below.trans ?_ (Below.mono hb0 ?_)) | (with_reducible refine Below.trans ?_ (Below.mono hb1 ?_)) | (with_reducible refine Below.trans ?_ (Below.mono hb2 ?_)) | (with_reducible refine Below.trans ?_ (Below.mono hb3 ?_)) | (with_reducible refine Below.trans ?_ (Below.mono hb4 ?_)) | (with_reducible refine Below.trans ?_ (Below.mono hb5 ?_)) | (with_reducible refine Below.trans ?_ (Below.mono hb6 ?_)) | (with_reducible refine Below.trans ?_ (Below.mono hb7 ?_)) | (with_reducible refine Below.trans ?_ (Below.mono hb8 ?_)) | (with_reducible refine Below.trans ?_ (Below.mono hb9 ?_)) | (with_reducible refine Below.trans ?_ (Below.mono hb10 ?_)) | (with_reducible refine Below.trans ?_ (Below.mono hb11 ?_)) | (with_reducible refine Below.trans ?_ (Below.mono hb12 ?_)) | (with_reducible refine Below.trans ?_ (Below.mono hb13 ?_)) | (with_reducible refine Below.trans ?_ (Below.mono hb14 ?_)) | (with_reducible refine Below.trans ?_ (Below.mono hb15 ?_)) | omega | (simp; done) | (simp; omega)))
  clear h hkd
  go_enter Tryz.func19, Tryz.ntmps19
  go_wp2_with fail
  go_loopg [7, 16] l.length (fun gk v i wr => ∃ k : Nat, i = .int .i64 k ∧ k ≤ l.length ∧ Hid (gk = l.length - k) ∧ Own (w.heap.size + 1) 9 wr v ((l.take k).map (·.1)) ∧ Box wr w.heap.size 28 #[.int .i64 o, .int .i64 a, .int .i64 f, .slice a3 s.length c3] ∧ Below w.heap.size w wr ∧ w.heap.size + 1 ≤ wr.heap.size)
  case atStart => exact ⟨0, rfl, by omega, rfl, Own.nil _ _ _, hC0, hb0, by simp⟩
  case round =>
    clear hC0 hb0
    obtain ⟨k, rfl, hk, hgk, hown, hC, hb, hzr⟩ := hrel
    by_cases hlt : k < l.length
    · obtain ⟨b, off, hae, c0, c1, c2, c3', c4⟩ := (Hh.out.below hb).hl.arv hlt
      have Htk := Lib.hid (show (l.take (k + 1)).map (·.1) = (l.take k).map (·.1) ++ [l[k].1] by rw [List.take_succ_eq_append_getElem hlt, List.map_append]; rfl)
      have Hae := Lib.hid hae
      have HlO := Lib.hid hown.lt
      have hln : ((l.take k).map (·.1)).length ≤ 100000 := by have := Hll.out; rw [List.length_map, List.length_take]; omega
      rw [hae]
      clear hae
      generalize l[k] = x at *
      obtain ⟨x1, x2, x3, x4, x5⟩ := x
      simp only at c0 c1 c2 c3' c4 Htk
      generalize (l.take k).map (·.1) = acc at *
      go_wp2_with (at_builtin; refine wpList_append_one rfl _ _ 73 rfl (w.heap.size + 1) 9 16 (.string ⟨#[]⟩) Tryz.underlying73 infoStrS rfl _ acc rfl ((hown.alloc _).alloc _) x1 _ rfl (Box.newAt _ _ _ _ (by simp)) (by omega) (by omega) (by simp; omega) ?_; intro v' w3 hown3 hg3)
      have hC3 := ((hC.alloc (.cells #[.string x1, .int .i64 x2, .int .i64 x3, .string x4, .string x5] 63)).alloc (.cells #[.string x1] 9)).grown hg3 (fun e => by have := (HlO.out _ e.symm).1; omega)
      have hb3 : Below w.heap.size w w3 := Below.grown ((hb.alloc (by omega) (.cells #[.string x1, .int .i64 x2, .int .i64 x3, .string x4, .string x5] 63)).alloc (by simp; omega) (.cells #[.string x1] 9)) hg3 (by simp; omega) (fun j hj => by have := (HlO.out j hj).1; omega)
      have hz3 := hg3.size
      simp at hz3
      rw [← Hae.out]
      go_roundg (l.length - (k + 1))
      case measure => have := hgk.out; omega
      case rel => exact ⟨k + 1, by go_num, by omega, rfl, by rw [Htk.out]; exact hown3, hC3, hb3, by omega⟩
    · obtain rfl : k = l.length := by omega
      rw [List.take_length] at hown
      obtain ⟨ao, co, rfl, hsa, -, -⟩ := hown.form
      have hll2 : (l.map (·.1)).length ≤ 1000000000 := by have := Hll.out; rw [List.length_map]; omega
      rw [List.length_map] at *
      clear hown
      go_wp2_with fail
      have HS := sorted_any (l.map (·.1)) ao co wr hsa (by rw [List.length_map]; omega)
      rw [List.length_map] at HS
      refine HS.mono ?_
      rintro e w4 ⟨v4, rfl, hown4, hb4⟩
      have hC4 := hC.below hb4
      have hbw4 := below_next hb hb4
      obtain ⟨ak, ck, rfl, hsk, -, -⟩ := hown4.form
      have hkl : (keysS (l.map (·.1))).length ≤ 1000000 := by
        have := keysS_length (l.map (·.1))
        have := Hll.out
        rw [List.length_map] at *
        omega
      have Htk := Lib.hid (fun k (hk : k < (keysS (l.map (·.1))).length) => List.take_succ_eq_append_getElem hk)
      have Hsk := Lib.hid hsk
      have HC4 := Lib.hid hC4
      have hz4 := hC4.lt
      clear hown4 hsk hb4 hC hC4 hsa HS hb
      generalize keysS (l.map (·.1)) = ks at *
      go_wp2_with fail
      go_loopg [10, 29] ks.length (fun gk v i wr => ∃ (k : Nat) (acc : List Ent5), i = .int .i64 k ∧ k ≤ ks.length ∧ Hid (gk = ks.length - k) ∧ Hid (acc = ((ks.take k).map (fun id => er id t)).filter isEnt) ∧ Own w4.heap.size 35 wr v acc ∧ Below w4.heap.size w4 wr)
      case atStart => exact ⟨0, [], rfl, by omega, rfl, rfl, Own.nil _ _ _, Below.refl _ _⟩
      case round =>
        obtain ⟨k, acc, rfl, hk, hgk, hacc, hown, hbr⟩ := hrel
        have hzr := hbr.size
        by_cases hlt : k < ks.length
        · obtain ⟨kb, koff, hak, ck0⟩ := (Hsk.out.below hbr).str hlt
          have Hak := Lib.hid hak
          have HT := Lib.hid (Htk.out k hlt)
          have hal : acc.length ≤ 1000000 := by
            rw [hacc.out]
            refine Nat.le_trans (List.length_filter_le _ _) ?_
            rw [List.length_map, List.length_take]
            omega
          have hCr := HC4.out.below hbr
          have HI := Lib.hid (Hh.out.below (below_next hbw4 hbr))
          rw [hak]
          clear hak
          generalize ks[k] = id at *
          have HEx := Lib.hid (HEn.out id wr HI.out)
          have HlO := Lib.hid hown.lt
          have Hnew : Hid (((ks.take (k + 1)).map (fun id => er id t)).filter isEnt = acc ++ if isEnt (er id t) = true then [er id t] else []) := by
            show _ = _
            rw [HT.out, List.map_append, List.filter_append, ← hacc.out]
            congr 1
            rw [List.map_cons, List.map_nil, List.filter_cons]
            rfl
          generalize er id t = en at *
          obtain ⟨n1, n2, n3, n4, n5⟩ := en
          have hCr_l := hCr.lt; have hCr_0 := hCr.cell 0; have hCr_1 := hCr.cell 1; have hCr_2 := hCr.cell 2; have hCr_3 := hCr.cell 3; simp at hCr_0 hCr_1 hCr_2 hCr_3
          go_wp2_with fail
          refine HEx.out.mono ?_
          rintro e w5 ⟨rfl, hb5⟩
          have hown5 := hown.below hb5
          have hb6 := below_next hbr hb5
          clear hown hbr hb5 ck0 hCr hCr_l hCr_0 hCr_1 hCr_2 hCr_3
          rw [show entAgg (n1, n2, n3, n4, n5) = .agg #[.string n1, .int .i64 n2, .string n3, .string n4, .int .i64 n5] from rfl]
          have hz6 := hb6.size
          by_cases hn : n2 = 1
          · have Hn : Hid (((ks.take (k + 1)).map (fun id => er id t)).filter isEnt = acc) := by
              show _ = _
              rw [Hnew.out, if_neg (by unfold isEnt; simp [hn]), List.append_nil]
            subst hn
            go_wp2_with fail
            rw [← Hak.out]
            go_roundg (ks.length - (k + 1))
            case measure => have := hgk.out; omega
            case rel => exact ⟨k + 1, acc, by go_num, by omega, rfl, by show _ = _; rw [Hn.out], hown5.alloc _, hb6.alloc (by omega) _⟩
          · have Hn : Hid (((ks.take (k + 1)).map (fun id => er id t)).filter isEnt = acc ++ [(n1, n2, n3, n4, n5)]) := by
              show _ = _
              rw [Hnew.out, if_pos (by unfold isEnt; simp [hn])]
            have hn' : (n2 != 1) = true := by simpa using hn
            have hn'' : (n2 == 1) = false := by simpa using hn
            clear hn
            go_upto_region 13 with (fail)
            go_wp2_with (at_builtin; refine wpList_append_one rfl _ _ 39 rfl w4.heap.size 35 64 (.agg #[.string ⟨#[]⟩, .int .i64 0, .string ⟨#[]⟩, .string ⟨#[]⟩, .int .i64 0]) Tryz.underlying39 infoEnt rfl _ acc rfl ((hown5.alloc _).alloc _) (n1, n2, n3, n4, n5) _ rfl (Box.newAt _ _ _ _ (by simp)) (by omega) (by omega) (by simp; omega) ?_; intro v' w7 hown7 hg7)
            have hb7 : Below w4.heap.size w4 w7 := Below.grown ((hb6.alloc (by omega) _).alloc (by simp; omega) _) hg7 (by simp; omega) (fun j hj => (HlO.out j hj).1)
            rw [← Hak.out]
            go_roundg (ks.length - (k + 1))
            case measure => have := hgk.out; omega
            case rel => exact ⟨k + 1, _, by go_num, by omega, rfl, by show _ = _; rw [Hn.out], hown7, hb7⟩
        · obtain rfl : k = ks.length := by omega
          rw [List.take_length] at hacc
          have hbF := hbw4.trans (hbr.mono (by have := hbw4.size; omega))
          go_wp2_with fail
          go_ret
          exact ⟨_, rfl, by rw [← HVl.out, ← hacc.out]; exact hown.mono (by have := hbw4.size; omega), hbF⟩
end Go.Proofs.YtifflpilnpcmoaaGreatDoor

/-! MomentsOf: of the reference. -/
namespace Go.Proofs.YtifflpilnpcmoaaGreatDoor
open Go.RowKit Go.Sort
set_option linter.unusedVariables false
set_option linter.unusedSimpArgs false

theorem ints_flatZ (l : List Int) : l.map (Value.int .i64) = l.flatMap Cel.cells := by
  induction l with
  | nil => rfl
  | cons x r ih => rw [List.map_cons, List.flatMap_cons, ih]; rfl
theorem sortZ_length (l : List Int) : (sortZ l).length = l.length := by simp [sortZ]
theorem compact_dedTo (l : List Int) : ∀ m, m ≤ l.length → Lib.compactUpTo l.toArray m = dedTo l m
  | 0, _ => rfl
  | m + 1, hm => by
    rw [Lib.compactUpTo_succ, compact_dedTo l m (by omega)]
    show _ = dedTo l m ++ (if keepD l m = true then l[m]?.toList else [])
    have e1 : l.toArray[m]! = l[m] := by simp [show m < l.length by omega]
    have hk : Lib.keeps l.toArray m = keepD l m := by
      unfold Lib.keeps keepD
      by_cases h0 : m = 0
      · simp [h0]
      · have e2 : l.toArray[m - 1]! = l[m - 1] := by simp [show m - 1 < l.length by omega]
        rw [e1, e2, List.getElem?_eq_getElem (by omega : m < l.length), List.getElem?_eq_getElem (by omega : m - 1 < l.length)]
        simp
    rw [hk, e1, List.getElem?_eq_getElem (by omega : m < l.length)]
    rfl
theorem compact_ded (l : List Int) : Lib.compact l = dedL l := compact_dedTo l l.length (Nat.le_refl _)
theorem SA.intZ {w : World} {a : Option Addr} {l : List Int} (h : SA w a l) {i : Nat} (hi : i < l.length) :
    ∃ b off, a = some ⟨b, off, none⟩ ∧ w.cell? ⟨b, off + i, none⟩ = some (.int .i64 l[i]) := by
  obtain ⟨b, off, ha, hc⟩ := h.at hi
  refine ⟨b, off, ha, ?_⟩
  have := hc 0 (by decide)
  rw [show off + (i * Cel.k Int + 0) = off + i from by show off + (i * 1 + 0) = _; omega] at this
  exact this
theorem sortZ_any (base : Nat) (l : List Int) (v : Value) (w : World) (h : Own base 3 w v l) (hlen : l.length ≤ 1000000000) :
    Calls Tryz.prog 50 #[v] w (fun e w' => e = .returned (.tuple #[]) ∧ Own base 3 w' v (sortZ l) ∧ w.grownBy w' v.ownBlock) := by
  by_cases hl : l = []
  · subst hl
    obtain ⟨a, cap, rfl, _⟩ := h.form
    refine (Tryz.slices_Sort_int_none a cap w).mono ?_
    rintro e w' ⟨rfl, rfl⟩
    refine ⟨rfl, ?_, ⟨rfl, rfl, rfl, Nat.le_refl _, fun _ _ _ => rfl⟩⟩
    rw [show sortZ [] = [] from List.length_eq_zero_iff.1 (sortZ_length [])]
    exact h
  · obtain ⟨h1, h2⟩ := h
    rcases h2 with ⟨_, h2⟩ | ⟨g, cap, cur, rfl, r1, r2, r3, r4, r5, r6⟩
    · exact absurd (List.length_eq_zero_iff.1 h2) hl
    · have hH : Holds (Value.int .i64) w g 0 l.toArray := holds_of_blockI r2 (by rw [ints_flatZ, ← r6, show Cel.k Int = 1 from rfl, Nat.mul_one])
      refine (Tryz.slices_Sort_int g 0 cap l w hH (Array.getElem?_eq_some_iff.1 r2).1 (by omega)).mono ?_
      rintro e w' ⟨rfl, n, os, rfl⟩
      refine ⟨rfl, ?_, grownBy_sortedI _⟩
      have := ownsRow_sortedI (w := w) (base := base) (n := n) (os := os) (ss := l) (ts := sortZ l) (sortZ_length l) r1 r2 r3 r4 r5
      rw [ints_flatZ] at this
      unfold Own
      rw [sortZ_length]
      exact this
theorem compactZ_any (base : Nat) (l : List Int) (v : Value) (w : World) (h : Own base 3 w v l) (hlen : l.length ≤ 1000000000) :
    Calls Tryz.prog 51 #[v] w (fun e w' => ∃ v', e = .returned v' ∧ Own base 3 w' v' (dedL l) ∧ w.grownBy w' v.ownBlock) := by
  by_cases hl : l = []
  · subst hl
    obtain ⟨a, cap, rfl, _⟩ := h.form
    refine (Tryz.slices_Compact_int_empty a cap w).mono ?_
    rintro e w' ⟨rfl, rfl⟩
    exact ⟨_, rfl, h, ⟨rfl, rfl, rfl, Nat.le_refl _, fun _ _ _ => rfl⟩⟩
  · obtain ⟨h1, h2⟩ := h
    rcases h2 with ⟨_, h2⟩ | ⟨g, cap, cur, rfl, r1, r2, r3, r4, r5, r6⟩
    · exact absurd (List.length_eq_zero_iff.1 h2) hl
    · have hH : Holds (Value.int .i64) w g 0 l.toArray := holds_of_blockI r2 (by rw [ints_flatZ, ← r6, show Cel.k Int = 1 from rfl, Nat.mul_one])
      refine (Tryz.slices_Compact_int g 0 cap l w hH (by omega) r3).mono ?_
      rintro e w' ⟨rfl, q, rfl⟩
      have hle : (Lib.compact l).length ≤ l.length := by
        rw [compact_ded]
        exact dedTo_len l l.length
      rw [← compact_ded]
      refine ⟨_, rfl, ?_, ?_⟩
      · have h3 := ownsRow_sortedI (w := w) (base := base) (n := q) (os := #[]) (ss := l) (ts := Lib.compact l ++ List.replicate (l.length - (Lib.compact l).length) 0) (by rw [List.length_append, List.length_replicate]; omega) r1 r2 r3 r4 r5
        rw [grow_empty] at h3
        obtain ⟨_, h4⟩ := h3
        rcases h4 with ⟨h4, _⟩ | ⟨g', cap', cur', he, s1, s2, s3, s4, s5, s6⟩
        · cases h4
        · cases he
          unfold Own
          rw [← ints_flatZ]
          refine ⟨by rw [List.length_map]; exact (Nat.mul_one _).symm, .inr ⟨g, cap, cur', rfl, r1, s2, by omega, r4, s5, ?_⟩⟩
          rw [Nat.mul_one, List.map_append] at s6
          rw [show Cel.k Int = 1 from rfl, Nat.mul_one]
          have s7 := congrArg (List.take (Lib.compact l).length) s6
          rw [List.take_take, Nat.min_eq_left hle, List.take_append_of_le_length (by rw [List.length_map]; exact Nat.le_refl _)] at s7
          exact s7.trans (List.take_of_length_le (by rw [List.length_map]; exact Nat.le_refl _))
      · have := grownBy_sortedI (w := w) (g := g) (n := q) (os := #[]) (Lib.compact l ++ List.replicate (l.length - (Lib.compact l).length) 0).toArray
        rw [grow_empty] at this
        exact this
end Go.Proofs.YtifflpilnpcmoaaGreatDoor
namespace Go.Proofs.YtifflpilnpcmoaaGreatDoor
open Go.RowKit
set_option maxRecDepth 100000 in
set_option maxHeartbeats 4000000 in
theorem momentsR_any (o a f : Int) (s : List Skill) (a3 : Option Addr) (c3 : Nat) (l : List Arv) (la : Option Addr) (cap : Nat) (id : ByteArray) (w : World) (h : CallIn a f s a3 l la w) (hkd : ∀ x ∈ l, kindB x.2.2.1 = true) :
    Calls Tryz.prog 21 #[callAgg o a f s a3 c3, .slice la l.length cap, .string id] w (GivesOwn 3 (momR (cntB o a f s) l id) w) := by
  have HEn := Lib.hid (fun (t : Int) (W : World) (h : CallIn a f s a3 l la W) => entryR_any o a f s a3 c3 l la cap id t W h.hs h.hsl h.hbd h.ab.1 h.ab.2.1 h.ab.2.2.1 h.ab.2.2.2 h.hl h.hll hkd)
  have HVl := Lib.hid (show momR (cntB o a f s) l id = (dedL (sortZ ((l.filter (fun a => decide (a.1 = id))).map (·.2.1)))).filter (chg (entR (cntB o a f s) l id)) from rfl)
  generalize momR (cntB o a f s) l id = vl at *
  have hll9 := h.hll
  have Hh := Lib.hid h
  have Hbt : Hid (∀ x ∈ dedL (sortZ ((l.filter (fun a => decide (a.1 = id))).map (·.2.1))), -10000000 ≤ x ∧ x ≤ 10000000) := fun x hx => by
    rw [dedL_mem, (sortZ_ok _).2, List.mem_map] at hx
    obtain ⟨y, hy, rfl⟩ := hx
    have := Hh.out.hok y (List.mem_filter.1 hy).1
    exact ⟨this.2.2.2.1, this.2.2.2.2.1⟩
  generalize entR (cntB o a f s) l id = er at *
  unfold callAgg at *
  have hC0 := Box.new w 28 #[.int .i64 o, .int .i64 a, .int .i64 f, .slice a3 s.length c3]
  have hb0 : Below w.heap.size w (w.alloc (.cells #[.int .i64 o, .int .i64 a, .int .i64 f, .slice a3 s.length c3] 28)) := by (repeat' (first | exact Below.refl _ _ | assumption | refine Below.setCell ?_ ?_ _ | refine below_drewN ?_ _ | refine Below.drew ?_ | refine Below.alloc ?_ ?_ _ | (with_reducible refine Below.trans ?_ (Below.mono hb ?_)) | (with_reducible refine Below.trans ?_ (Below.mono hb0 ?_)) | (with_reducible refine Below.trans ?_ (Below.mono hb1 ?_)) | (with_reducible refine Below.trans ?_ (Below.mono hb2 ?_)) | (with_reducible refine Below.trans ?_ (Below.mono hb3 ?_)) | (with_reducible refine Below.trans ?_ (Below.mono hb4 ?_)) | (with_reducible refine Below.trans ?_ (Below.mono hb5 ?_)) | (with_reducible refine Below.trans ?_ (Below.mono hb6 ?_)) | (with_reducible refine Below.trans ?_ (Below.mono hb7 ?_)) | (with_reducible refine Below.trans ?_ (Below.mono hb8 ?_)) | (with_reducible refine Below.trans ?_ (Below.mono hb9 ?_)) | (with_reducible refine Below.trans ?_ (Below.mono hb10 ?_)) | (with_reducible refine Below.trans ?_ (Below.mono hb11 ?_)) | (with_reducible refine Below.trans ?_ (Below.mono hb12 ?_)) | (with_reducible refine Below.trans ?_ (Below.mono hb13 ?_)) | (with_reducible refine Below.trans ?_ (Below.mono hb14 ?_)) | (with_reducible refine Below.trans ?_ (Below.mono hb15 ?_)) | omega | (simp; done) | (simp; omega)))
  clear h hkd
  go_enter Tryz.func21, Tryz.ntmps21
  go_wp2_with fail
  go_loopg [7, 15] l.length (fun gk v i wr => ∃ (k : Nat) (acc : List Int), i = .int .i64 k ∧ k ≤ l.length ∧ Hid (gk = l.length - k) ∧ Hid (acc = ((l.take k).filter (fun a => decide (a.1 = id))).map (·.2.1)) ∧ Own (w.heap.size + 1) 3 wr v acc ∧ Box wr w.heap.size 28 #[.int .i64 o, .int .i64 a, .int .i64 f, .slice a3 s.length c3] ∧ Below w.heap.size w wr ∧ w.heap.size + 1 ≤ wr.heap.size)
  case atStart => exact ⟨0, [], rfl, by omega, rfl, rfl, Own.nil _ _ _, hC0, hb0, by simp⟩
  case round =>
    clear hC0 hb0
    obtain ⟨k, acc, rfl, hk, hgk, hacc, hown, hC, hb, hzr⟩ := hrel
    have hln : acc.length ≤ 100000 := by
      rw [hacc.out, List.length_map]
      refine Nat.le_trans (List.length_filter_le _ _) ?_
      rw [List.length_take]; omega
    by_cases hlt : k < l.length
    · obtain ⟨b, off, hae, c0, c1, c2, c3', c4⟩ := (Hh.out.below hb).hl.arv hlt
      have Htk : Hid (((l.take (k + 1)).filter (fun a => decide (a.1 = id))).map (·.2.1) = acc ++ if l[k].1 = id then [l[k].2.1] else []) := by
        show _ = _
        rw [List.take_succ_eq_append_getElem hlt, List.filter_append, List.map_append, ← hacc.out, List.filter_cons, List.filter_nil]
        by_cases e : l[k].1 = id <;> simp [e]
      have Hae := Lib.hid hae
      have HlO := Lib.hid hown.lt
      rw [hae]
      clear hae
      generalize l[k] = x at *
      obtain ⟨x1, x2, x3, x4, x5⟩ := x
      simp only at c0 c1 c2 c3' c4 Htk
      by_cases hx : x1 = id
      · rw [if_pos hx] at Htk
        have hxl : (x1.toList == id.toList) = true := by rw [hx]; simp
        have hxe : x1.toList = id.toList := by rw [hx]
        clear hx
        go_upto_region 6 with (fail)
        go_wp2_with (at_builtin; refine wpList_append_one rfl _ _ 22 rfl (w.heap.size + 1) 3 8 (.int .i64 0) Tryz.underlying22 infoIntS rfl _ acc rfl ((hown.alloc _).alloc _) x2 _ rfl (Box.newAt _ _ _ _ (by simp)) (by omega) (by omega) (by simp; omega) ?_; intro v' w3 hown3 hg3)
        have hC3 := ((hC.alloc (.cells #[.string x1, .int .i64 x2, .int .i64 x3, .string x4, .string x5] 63)).alloc (.cells #[.int .i64 x2] 3)).grown hg3 (fun e => by have := (HlO.out _ e.symm).1; omega)
        have hb3 : Below w.heap.size w w3 := Below.grown ((hb.alloc (by omega) (.cells #[.string x1, .int .i64 x2, .int .i64 x3, .string x4, .string x5] 63)).alloc (by simp; omega) (.cells #[.int .i64 x2] 3)) hg3 (by simp; omega) (fun j hj => by have := (HlO.out j hj).1; omega)
        have hz3 := hg3.size
        simp at hz3
        rw [← Hae.out]
        go_roundg (l.length - (k + 1))
        case measure => have := hgk.out; omega
        case rel => exact ⟨k + 1, _, by go_num, by omega, rfl, Htk.out.symm, hown3, hC3, hb3, by omega⟩
      · rw [if_neg hx, List.append_nil] at Htk
        have hxl : (x1.toList == id.toList) = false := by rw [toList_beq]; exact decide_eq_false hx
        have hxe : ¬ x1.toList = id.toList := fun e => hx (toList_inj.1 e)
        clear hx
        go_wp2_with fail
        rw [← Hae.out]
        go_roundg (l.length - (k + 1))
        case measure => have := hgk.out; omega
        case rel => exact ⟨k + 1, acc, by go_num, by omega, rfl, Htk.out.symm, hown.alloc _, hC.alloc _, hb.alloc (by omega) _, by simp; omega⟩
    · obtain rfl : k = l.length := by omega
      rw [List.take_length] at hacc
      rw [← hacc.out] at HVl Hbt
      have hl1 : (sortZ acc).length ≤ 1000000000 := by rw [sortZ_length]; omega
      have HlO := Lib.hid hown.lt
      go_wp2_with fail
      refine (sortZ_any _ acc _ _ hown (by omega)).mono ?_
      rintro e w4 ⟨rfl, hown4, hg4⟩
      have hC4 := hC.grown hg4 (fun e => by have := (HlO.out _ e.symm).1; omega)
      have hb4 : Below w.heap.size w w4 := Below.grown hb hg4 (by omega) (fun j hj => by have := (HlO.out j hj).1; omega)
      have hz4 := hg4.size
      go_wp2_with fail
      refine (compactZ_any _ (sortZ acc) _ _ hown4 hl1).mono ?_
      rintro e w5 ⟨v5, rfl, hown5, hg5⟩
      have hC5 := hC4.grown hg5 (fun e => by have := (HlO.out _ e.symm).1; omega)
      have hb5 : Below w.heap.size w w5 := Below.grown hb4 hg5 (by omega) (fun j hj => by have := (HlO.out j hj).1; omega)
      have hcl : (dedL (sortZ acc)).length ≤ 1000000 := by
        have := dedTo_len (sortZ acc) (sortZ acc).length
        rw [sortZ_length] at this
        show (dedTo (sortZ acc) (sortZ acc).length).length ≤ _
        rw [sortZ_length]
        omega
      obtain ⟨ak, ck, rfl, hsk, -, -⟩ := hown5.form
      have Htk := Lib.hid (fun k (hk : k < (dedL (sortZ acc)).length) => List.take_succ_eq_append_getElem hk)
      have Hsk := Lib.hid hsk
      have HC5 := Lib.hid hC5
      have hz5 := hC5.lt
      clear hown hown4 hown5 hC hC4 hC5 hsk hg4 hg5 hb hb4 hacc
      generalize dedL (sortZ acc) = ks at *
      go_wp2_with fail
      go_loopg [10, 34] ks.length (fun gk v i wr => ∃ (k : Nat) (acc : List Int), i = .int .i64 k ∧ k ≤ ks.length ∧ Hid (gk = ks.length - k) ∧ Hid (acc = (ks.take k).filter (chg er)) ∧ Own w5.heap.size 3 wr v acc ∧ Below w5.heap.size w5 wr)
      case atStart => exact ⟨0, [], rfl, by omega, rfl, rfl, Own.nil _ _ _, Below.refl _ _⟩
      case round =>
        obtain ⟨k, ac2, rfl, hk, hgk, hacc, hown, hbr⟩ := hrel
        have hzr := hbr.size
        by_cases hlt : k < ks.length
        · obtain ⟨kb, koff, hak, ck0⟩ := (Hsk.out.below hbr).intZ hlt
          have Hak := Lib.hid hak
          have Hbx := Lib.hid (Hbt.out _ (List.getElem_mem hlt))
          have Hnew : Hid ((ks.take (k + 1)).filter (chg er) = ac2 ++ if chg er ks[k] = true then [ks[k]] else []) := by
            show _ = _
            rw [Htk.out k hlt, List.filter_append, ← hacc.out, List.filter_cons, List.filter_nil]
          have hal : ac2.length ≤ 1000000 := by
            rw [hacc.out]
            refine Nat.le_trans (List.length_filter_le _ _) ?_
            rw [List.length_take]
            omega
          have hCr := HC5.out.below hbr
          have HlO := Lib.hid hown.lt
          rw [hak]
          clear hak
          generalize ks[k] = x2 at *
          have HCh : Hid (chg er x2 = !decide (er x2 = er (x2 - 1))) := rfl
          rw [HCh.out] at Hnew
          clear HCh
          have HE1 := Lib.hid (fun W h => HEn.out x2 W h)
          have HE2 := Lib.hid (fun W h => HEn.out (x2 - 1) W h)
          have hw1 : IntKind.i64.wrap (x2 - 1) = x2 - 1 := IntWalk.i64_in _ (by have := Hbx.out; omega)
          have hne := run_neEnt (er x2) (er (x2 - 1))
          have hgd := fun p q => guard_Ent p q (er x2) (er (x2 - 1))
          obtain ⟨e1, he1⟩ : ∃ e1, er x2 = e1 := ⟨_, rfl⟩
          obtain ⟨e2, he2⟩ : ∃ e2, er (x2 - 1) = e2 := ⟨_, rfl⟩
          rw [he1] at HE1 Hnew hne hgd
          rw [he2] at HE2 Hnew hne hgd
          clear he1 he2
          generalize decide (e1 = e2) = dq at *
          generalize entAgg e1 = va at *
          generalize entAgg e2 = vb at *
          have HI := Lib.hid (fun W (hW : Below wr.heap.size wr W) => Hh.out.below (below_next (below_next hb5 hbr) hW))
          have hCr_l := hCr.lt; have hCr_0 := hCr.cell 0; have hCr_1 := hCr.cell 1; have hCr_2 := hCr.cell 2; have hCr_3 := hCr.cell 3; simp at hCr_0 hCr_1 hCr_2 hCr_3
          go_upto_region 13 with (fail)
          refine wp_region_held_drew (S := (fun wx => wx.cell? ⟨w.heap.size, 0, none⟩ = some (.int .i64 o) ∧ wx.cell? ⟨w.heap.size, 1, none⟩ = some (.int .i64 a) ∧ wx.cell? ⟨w.heap.size, 2, none⟩ = some (.int .i64 f) ∧ wx.cell? ⟨w.heap.size, 3, none⟩ = some (.slice a3 s.length c3) ∧ Below wr.heap.size wr wx)) (by kernel_rfl) ?hS (fun hHeld => ?_)
          case hS => exact ⟨hCr_0, hCr_1, hCr_2, hCr_3, (Below.refl _ _).drew⟩
          refine rtake (i := 0) (d := (some 38)) (v := ?_) rfl (by kernel_rfl) (by kernel_rfl) (by kernel_rfl) (by kernel_rfl) (fun _ _ _ h => h) (by kernel_rfl) (by assumption) ?_ ?_
          rotate_left 1
          · (intro wI hSI; (try dsimp only at hSI); go_simp; (try with_reducible rfl))
          simp only [Act.put, List.setIfInBounds_toArray, List.set_cons_zero, List.set_cons_succ]
          refine rtake (i := 1) (d := (some 39)) (v := ?_) rfl (by kernel_rfl) (by kernel_rfl) (by kernel_rfl) (by kernel_rfl) (fun _ _ _ h => h) (by kernel_rfl) (by assumption) ?_ ?_
          rotate_left 1
          · (intro wI hSI; (try dsimp only at hSI); go_simp; (try with_reducible rfl))
          simp only [Act.put, List.setIfInBounds_toArray, List.set_cons_zero, List.set_cons_succ]
          refine rtake (i := 2) (d := (some 40)) (v := ?_) rfl (by kernel_rfl) (by kernel_rfl) (by kernel_rfl) (by kernel_rfl) (fun _ _ _ h => h) (by kernel_rfl) (by assumption) ?_ ?_
          rotate_left 1
          · (intro wI hSI; (try dsimp only at hSI); go_simp; (try with_reducible rfl))
          simp only [Act.put, List.setIfInBounds_toArray, List.set_cons_zero, List.set_cons_succ]
          refine rtake (i := 3) (d := (some 41)) (v := ?_) rfl (by kernel_rfl) (by kernel_rfl) (by kernel_rfl) (by kernel_rfl) (fun _ _ _ h => h) (by kernel_rfl) (by assumption) ?_ ?_
          rotate_left 1
          · (intro wI hSI; (try dsimp only at hSI); go_simp; (try with_reducible rfl))
          simp only [Act.put, List.setIfInBounds_toArray, List.set_cons_zero, List.set_cons_succ]
          refine rtake (i := 5) (d := (some 43)) (v := ?_) rfl (by kernel_rfl) (by kernel_rfl) (by kernel_rfl) (by kernel_rfl) (fun _ _ _ h => h) (by kernel_rfl) (by assumption) ?_ ?_
          rotate_left 1
          · (intro wI hSI; (try dsimp only at hSI); go_simp; (try with_reducible rfl))
          simp only [Act.put, List.setIfInBounds_toArray, List.set_cons_zero, List.set_cons_succ]
          refine rtake (i := 6) (d := (some 44)) (v := ?_) rfl (by kernel_rfl) (by kernel_rfl) (by kernel_rfl) (by kernel_rfl) (fun _ _ _ h => h) (by kernel_rfl) (by assumption) ?_ ?_
          rotate_left 1
          · (intro wI hSI; (try dsimp only at hSI); go_simp; (try with_reducible rfl))
          simp only [Act.put, List.setIfInBounds_toArray, List.set_cons_zero, List.set_cons_succ]
          refine rtake (i := 7) (d := (some 45)) (v := ?_) rfl (by kernel_rfl) (by kernel_rfl) (by kernel_rfl) (by kernel_rfl) (fun _ _ _ h => h) (by kernel_rfl) (by assumption) ?_ ?_
          rotate_left 1
          · (intro wI hSI; (try dsimp only at hSI); go_simp; (try with_reducible rfl))
          simp only [Act.put, List.setIfInBounds_toArray, List.set_cons_zero, List.set_cons_succ]
          refine rtake (i := 8) (d := (some 46)) (v := ?_) rfl (by kernel_rfl) (by kernel_rfl) (by kernel_rfl) (by kernel_rfl) (fun _ _ _ h => h) (by kernel_rfl) (by assumption) ?_ ?_
          rotate_left 1
          · (intro wI hSI; (try dsimp only at hSI); go_simp; (try with_reducible rfl))
          simp only [Act.put, List.setIfInBounds_toArray, List.set_cons_zero, List.set_cons_succ]
          refine rtake (i := 9) (d := (some 47)) (v := ?_) rfl (by kernel_rfl) (by kernel_rfl) (by kernel_rfl) (by kernel_rfl) (fun _ _ _ h => h) (by kernel_rfl) (by assumption) ?_ ?_
          rotate_left 1
          · (intro wI hSI; (try dsimp only at hSI); go_simp; (try with_reducible rfl))
          simp only [Act.put, List.setIfInBounds_toArray, List.set_cons_zero, List.set_cons_succ]
          refine rcall (i := 4) (d := (some 42)) (by kernel_rfl) rfl (by kernel_rfl) (fun K hK => ?_)
          go_simp
          go_at_call 17; refine (HE1.out _ (HI.out _ hHeld.2.2.2.2)).mono ?_; rintro e w8 ⟨rfl, hb8⟩
          refine hK.out _ _ ?hS (fun hHeld => ?_)
          case hS => exact ⟨cell_later hb8 hHeld.1, cell_later hb8 hHeld.2.1, cell_later hb8 hHeld.2.2.1, cell_later hb8 hHeld.2.2.2.1, hHeld.2.2.2.2.trans (hb8.mono hHeld.2.2.2.2.size)⟩
          clear hK K
          simp only [Act.put, List.setIfInBounds_toArray, List.set_cons_zero, List.set_cons_succ]
          refine rcall (i := 10) (d := (some 48)) (by kernel_rfl) rfl (by kernel_rfl) (fun K hK => ?_)
          go_simp
          go_at_call 17; refine (HE2.out _ (HI.out _ hHeld.2.2.2.2)).mono ?_; rintro e w9 ⟨rfl, hb9⟩
          refine hK.out _ _ ?hS (fun hHeld => ?_)
          case hS => exact ⟨cell_later hb9 hHeld.1, cell_later hb9 hHeld.2.1, cell_later hb9 hHeld.2.2.1, cell_later hb9 hHeld.2.2.2.1, hHeld.2.2.2.2.trans (hb9.mono hHeld.2.2.2.2.size)⟩
          clear hK K
          simp only [Act.put, List.setIfInBounds_toArray, List.set_cons_zero, List.set_cons_succ]
          refine rtake (i := 11) (d := (some 49)) (v := ?_) rfl (by kernel_rfl) (by kernel_rfl) (by kernel_rfl) (by kernel_rfl) (fun _ _ _ h => h) (by kernel_rfl) (by assumption) ?_ ?_
          rotate_left 1
          · (intro wI hSI; (try dsimp only at hSI); go_simp; (try with_reducible rfl))
          simp only [Act.put, List.setIfInBounds_toArray, List.set_cons_zero, List.set_cons_succ]
          refine wpAnyH_done (by kernel_rfl) ?_ _
          have hbZ := hHeld.2.2.2.2
          have hown9 := hown.below hbZ
          have hb10 := below_next hbr hbZ
          have hz10 := hb10.size
          clear hHeld hbZ hb8 hb9 hown hbr hne hgd HE1 HE2 hCr hCr_l hCr_0 hCr_1 hCr_2 hCr_3 ck0
          cases dq
          · have Ha : Hid ((ks.take (k + 1)).filter (chg er) = ac2 ++ [x2]) := by show _ = _; rw [Hnew.out]; rfl
            go_wp2_with (at_builtin; refine wpList_append_one rfl _ _ 22 rfl w5.heap.size 3 8 (.int .i64 0) Tryz.underlying22 infoIntS rfl _ ac2 rfl (hown9.alloc _) x2 _ rfl (Box.newAt _ _ _ _ rfl) (by omega) (by omega) (by simp; omega) ?_; intro v' w11 hown11 hg11)
            have hb11 : Below w5.heap.size w5 w11 := Below.grown (hb10.alloc (by omega) _) hg11 (by simp; omega) (fun j hj => (HlO.out j hj).1)
            rw [← Hak.out]
            go_roundg (ks.length - (k + 1))
            case measure => have := hgk.out; omega
            case rel => exact ⟨k + 1, ac2 ++ [x2], by go_num, by omega, rfl, Ha.out.symm, hown11, hb11⟩
          · have Ha : Hid ((ks.take (k + 1)).filter (chg er) = ac2) := by show _ = _; rw [Hnew.out]; simp
            go_wp2_with fail
            rw [← Hak.out]
            go_roundg (ks.length - (k + 1))
            case measure => have := hgk.out; omega
            case rel => exact ⟨k + 1, ac2, by go_num, by omega, rfl, Ha.out.symm, hown9, hb10⟩
        · obtain rfl : k = ks.length := by omega
          rw [List.take_length] at hacc
          have hbF := hb5.trans (hbr.mono (by have := hb5.size; omega))
          go_wp2_with fail
          go_ret
          exact ⟨_, rfl, by rw [HVl.out, ← hacc.out]; exact hown.mono (by have := hb5.size; omega), hbF⟩
end Go.Proofs.YtifflpilnpcmoaaGreatDoor

/-! Entries and moments: slices.Equal, the errors' cmp.Or; what the program and the reference say of a paper is the same. -/
namespace Go.Proofs.YtifflpilnpcmoaaGreatDoor
open Go.RowKit
set_option linter.unusedVariables false
set_option linter.unusedSimpArgs false

theorem SA.ent {w : World} {a : Option Addr} {l : List Ent5} (h : SA w a l) {i : Nat} (hi : i < l.length) :
    ∃ b off, a = some ⟨b, off, none⟩ ∧ w.cell? ⟨b, off + i * 5, none⟩ = some (.string l[i].1) ∧ w.cell? ⟨b, off + i * 5 + 1, none⟩ = some (.int .i64 l[i].2.1) ∧ w.cell? ⟨b, off + i * 5 + 2, none⟩ = some (.string l[i].2.2.1) ∧ w.cell? ⟨b, off + i * 5 + 3, none⟩ = some (.string l[i].2.2.2.1) ∧ w.cell? ⟨b, off + i * 5 + 4, none⟩ = some (.int .i64 l[i].2.2.2.2) := by
  obtain ⟨b, off, ha, hc⟩ := h.at hi
  exact ⟨b, off, ha, hc 0 (by decide), hc 1 (by decide), hc 2 (by decide), hc 3 (by decide), hc 4 (by decide)⟩
set_option maxRecDepth 100000 in
set_option maxHeartbeats 4000000 in
/-- Two slices that read alike are equal. -/
theorem eqEnt_any (l : List Ent5) (a a2 : Option Addr) (cap cap2 : Nat) (w : World) (h : SA w a l) (h2 : SA w a2 l) (hlen : l.length ≤ 1000000000) :
    Calls Tryz.prog 18 #[.slice a l.length cap, .slice a2 l.length cap2] w (Draws (.bool true) w) := by
  have hq0 : ((l.length : Int) != (l.length : Int)) = false := by simp
  go_enter Tryz.func18, Tryz.ntmps18
  go_wp2_with fail
  go_loopg [13] l.length (fun gk i wr => ∃ k : Nat, i = .int .i64 k ∧ k ≤ l.length ∧ Hid (gk = l.length - k) ∧ ∃ n, wr = w.drewN n)
  case atStart => exact ⟨0, rfl, by omega, rfl, 0, rfl⟩
  case round =>
    obtain ⟨k, rfl, hk, hgk, n, rfl⟩ := hrel
    by_cases hlt : k < l.length
    · obtain ⟨b, off, ha, c0, c1, c2, c3, c4⟩ := h.ent hlt
      obtain ⟨b', off', ha', d0, d1, d2, d3, d4⟩ := h2.ent hlt
      rw [ha, ha']
      generalize l[k] = x at *
      obtain ⟨x1, x2, x3, x4, x5⟩ := x
      simp only at *
      have hk1 : (0 : Int) ≤ (k : Int) := by omega
      have hk2 : (k : Int) < (l.length : Int) := by omega
      go_wp2_with fail
      go_quiet (fail)
      go_wp2_with fail
      rw [← ha, ← ha']
      go_roundg (l.length - (k + 1))
      case measure => have := hgk.out; omega
      case rel => exact ⟨k + 1, by go_num, by omega, rfl, _, rfl⟩
    · go_wp2_with fail
      go_ret
      exact ⟨rfl, _, rfl⟩
set_option maxRecDepth 100000 in
set_option maxHeartbeats 4000000 in
theorem equalZ_any (l : List Int) (a a2 : Option Addr) (cap cap2 : Nat) (w : World) (h : SA w a l) (h2 : SA w a2 l) (hlen : l.length ≤ 1000000000) :
    Calls Tryz.prog 20 #[.slice a l.length cap, .slice a2 l.length cap2] w (Draws (.bool true) w) := by
  have hq0 : ((l.length : Int) != (l.length : Int)) = false := by simp
  go_enter Tryz.func20, Tryz.ntmps20
  go_wp2_with fail
  go_loopg [13] l.length (fun gk i wr => ∃ k : Nat, i = .int .i64 k ∧ k ≤ l.length ∧ Hid (gk = l.length - k) ∧ ∃ n, wr = w.drewN n)
  case atStart => exact ⟨0, rfl, by omega, rfl, 0, rfl⟩
  case round =>
    obtain ⟨k, rfl, hk, hgk, n, rfl⟩ := hrel
    by_cases hlt : k < l.length
    · obtain ⟨b, off, ha, c0⟩ := h.intZ hlt
      obtain ⟨b', off', ha', d0⟩ := h2.intZ hlt
      rw [ha, ha']
      generalize l[k] = x at *
      have hk1 : (0 : Int) ≤ (k : Int) := by omega
      have hk2 : (k : Int) < (l.length : Int) := by omega
      go_wp2_with fail
      go_quiet (fail)
      go_wp2_with fail
      rw [← ha, ← ha']
      go_roundg (l.length - (k + 1))
      case measure => have := hgk.out; omega
      case rel => exact ⟨k + 1, by go_num, by omega, rfl, _, rfl⟩
    · go_wp2_with fail
      go_ret
      exact ⟨rfl, _, rfl⟩
set_option maxRecDepth 100000 in
set_option maxHeartbeats 4000000 in
/-- The first of two errors that is not 0. -/
theorem orErr_any (x y : Int) (b : Nat) (w : World) (h : Box w b 36 #[.int .i64 x, .int .i64 y]) :
    Calls Tryz.prog 15 #[.slice (some ⟨b, 0, none⟩) 2 2] w (fun e w' => e = .returned (.int .i64 (if x ≠ 0 then x else y)) ∧ w = w') := by
  have h_l := h.lt; have h_0 := h.cell 0; have h_1 := h.cell 1; simp at h_0 h_1
  by_cases hx : x = 0
  · rw [if_neg (by simp [hx])]
    have hq : (x != 0) = false := by simpa using hx
    clear hx
    by_cases hy : y = 0
    · have hq2 : (y != 0) = false := by simpa using hy
      go_enter Tryz.func15, Tryz.ntmps15
      go_wp2_with fail
      refine wp_loop_rounds 3 ?_
      rw [rounds_succ]
      go_wp2_with fail
      rw [rounds_succ]
      go_wp2_with fail
      rw [rounds_succ]
      go_wp2_with fail
      go_ret
      exact ⟨by rw [hy]; rfl, rfl⟩
    · have hq2 : (y != 0) = true := by simpa using hy
      go_enter Tryz.func15, Tryz.ntmps15
      go_wp2_with fail
      refine wp_loop_rounds 2 ?_
      rw [rounds_succ]
      go_wp2_with fail
      rw [rounds_succ]
      go_wp2_with fail
      go_ret
      exact ⟨rfl, rfl⟩
  · rw [if_pos hx]
    have hq : (x != 0) = true := by simpa using hx
    go_enter Tryz.func15, Tryz.ntmps15
    go_wp2_with fail
    refine wp_loop_rounds 1 ?_
    rw [rounds_succ]
    go_wp2_with fail
    go_ret
    exact ⟨rfl, rfl⟩

theorem run_eqEnt (x y : Ent5) (w : World) : (binOp .eql 35 (entAgg x) (entAgg y)).run Tryz.prog w = .ok (.bool (decide (x = y))) w := by
  obtain ⟨x1, x2, x3, x4, x5⟩ := x
  obtain ⟨y1, y2, y3, y4, y5⟩ := y
  unfold entAgg
  rw [run_eql_struct]
  go_simp
  have e1 : (x1.toList = y1.toList) ↔ x1 = y1 := toList_inj
  have e3 : (x3.toList = y3.toList) ↔ x3 = y3 := toList_inj
  have e4 : (x4.toList = y4.toList) ↔ x4 = y4 := toList_inj
  by_cases h1 : x1 = y1 <;> by_cases h2 : x2 = y2 <;> by_cases h3 : x3 = y3 <;> by_cases h4 : x4 = y4 <;> by_cases h5 : x5 = y5 <;> simp [h1, h2, h3, h4, h5, e1, e3, e4]
theorem guardEq_Ent (p q : Operand) (x y : Ent5) (w : World) : (eqGuard .eql 35 p q (entAgg x) (entAgg y)).run Tryz.prog w = .ok () w := by
  unfold entAgg
  go_simp
/-- What there is of a paper: the same twice. -/
theorem stV_R {o a f : Int} {s : List Skill} {l : List Arv} {id : ByteArray} {t : Int} (h : stE o a f s l id t = 0) : stV o a f s l id t = entR (cntB o a f s) l id t := by
  unfold stV
  rw [if_pos h, entL_R (ownA_ok o a f s l id).1 (ownA_ok o a f s l id).2]
theorem stsV_R (o a f : Int) (s : List Skill) (l : List Arv) (t : Int) : stsV o a f s l t = ((keysS (l.map (·.1))).map (fun id => entR (cntB o a f s) l id t)).filter isEnt := by
  unfold stsV
  congr 1
  exact List.map_congr_left fun id _ => entL_R (ownA_ok o a f s l id).1 (ownA_ok o a f s l id).2 t
theorem momV_R (o a f : Int) (s : List Skill) (l : List Arv) (id : ByteArray) : momL (ownA o a f s l id) id = momR (cntB o a f s) l id := mom_same (ownA_ok o a f s l id).1 (ownA_ok o a f s l id).2
theorem arrs_kind {o a f : Int} {s : List Skill} {l : List Arv} (h : arrsFault o a f s l = 0) : ∀ x ∈ l, kindB x.2.2.1 = true := fun x hx => arrival_kind ((arrsFault_mem h).2.2 x hx)
end Go.Proofs.YtifflpilnpcmoaaGreatDoor
