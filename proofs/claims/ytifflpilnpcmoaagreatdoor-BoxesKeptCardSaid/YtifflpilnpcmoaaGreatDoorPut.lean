/- slices.Insert of one api.Arrival. -/
import Derived.Test.YtifflpilnpcmoaaGreatDoorStateP
import Derived.Test.YtifflpilnpcmoaaGreatDoorSortW
import Derived.Shelf.Spec.SlicesInsert
import Derived.Lib.Overlaps
import Derived.Lib.AppendZerosOnto
import Derived.Test.YtifflpilnpcmoaaGreatDoorSortA
import Derived.Test.YtifflpilnpcmoaaGreatDoorBoxS
import Derived.Test.YtifflpilnpcmoaaGreatDoorKeep
import Derived.Test.YtifflpilnpcmoaaGreatDoorReg
import Derived.Test.YtifflpilnpcmoaaGreatDoorCompA
import Derived.Test.YtifflpilnpcmoaaGreatDoorRegF
/-! slices.Insert of one api.Arrival. -/
namespace Go.Proofs.YtifflpilnpcmoaaGreatDoor
open Go.RowKit
set_option linter.unusedVariables false
set_option linter.unusedSimpArgs false

theorem Box.shape {w : World} {b : Nat} {T : TypeId} {vs : Array Value} (h : Box w b T vs) : w.shape? b = some (T, vs.size) := by
  unfold World.shape?
  have e : w.heap[b]? = some (.cells vs T (0, 0)) := h
  rw [e]
theorem infoArr : (Tryz.prog.info? 63).map (fun i => (i.zero, i.size, i.bytes)) = some (some (.agg #[.string ⟨#[]⟩, .int .i64 0, .int .i64 0, .string ⟨#[]⟩, .string ⟨#[]⟩]), 5, 64) := by kernel_rfl
/-- At the end: as append. -/
theorem insertEnd_any (base : Nat) (l : List Arv) (v : Value) (w : World) (h : Own base 63 w v l) (x : Arv) (vb : Nat) (hvb : Box w vb 63 (Cel.cells x).toArray) (hbase : base ≤ w.heap.size) (hl : l.length ≤ 1000000) :
    Calls Tryz.prog 65 #[v, .int .i64 (l.length : Nat), .slice (some ⟨vb, 0, none⟩) 1 1] w (fun e w' => ∃ v', e = .returned v' ∧ Own base 63 w' v' (l ++ [x]) ∧ Kp (fun j => v.ownBlock = some j) w w' ∧ ∀ j, v'.ownBlock = some j → v.ownBlock = some j ∨ w.heap.size ≤ j) := by
  obtain ⟨la, cap, rfl, hsa, -, hcap⟩ := h.form
  have hq1 : ((l.length : Int) == (l.length : Int)) = true := by simp
  by_cases hcl : cap = l.length
  · subst hcl
    go_enter Tryz.func65, Tryz.ntmps65
    go_wp2_with (at_builtin; refine wpList_append_lie (α := Arv) rfl _ _ 30 rfl 63 64 (.agg #[.string ⟨#[]⟩, .int .i64 0, .int .i64 0, .string ⟨#[]⟩, .string ⟨#[]⟩]) Tryz.underlying30 infoArr rfl _ l rfl h x _ rfl hvb (by omega) (by omega) (by omega) ?_; intro g9 cap9 w9 hown9 hg9 hat9; replace hg9 : w.grownBy w9 (Value.slice la l.length l.length).ownBlock := hg9; replace hat9 : (Value.slice la l.length l.length).ownBlock = some g9 ∨ g9 = w.heap.size := hat9)
    go_ret
    exact ⟨_, rfl, by have := hown9; exact this, (Kp.refl _ _).grown hg9 (fun j hj => .inl hj), fun j hj => by
      obtain rfl : g9 = j := Option.some.inj hj
      exact hat9.imp id (fun e => Nat.le_of_eq e.symm)⟩
  · skip
    go_enter Tryz.func65, Tryz.ntmps65
    go_wp2_with (at_builtin; refine wpList_append_lie (α := Arv) rfl _ _ 30 rfl 63 64 (.agg #[.string ⟨#[]⟩, .int .i64 0, .int .i64 0, .string ⟨#[]⟩, .string ⟨#[]⟩]) Tryz.underlying30 infoArr rfl _ l rfl h x _ rfl hvb (by omega) (by omega) (by omega) ?_; intro g9 cap9 w9 hown9 hg9 hat9; replace hg9 : w.grownBy w9 (Value.slice la l.length cap).ownBlock := hg9; replace hat9 : (Value.slice la l.length cap).ownBlock = some g9 ∨ g9 = w.heap.size := hat9)
    go_ret
    exact ⟨_, rfl, by have := hown9; exact this, (Kp.refl _ _).grown hg9 (fun j hj => .inl hj), fun j hj => by
      obtain rfl : g9 = j := Option.some.inj hj
      exact hat9.imp id (fun e => Nat.le_of_eq e.symm)⟩
set_option maxRecDepth 100000 in
set_option maxHeartbeats 8000000 in
/-- Between others, with room: in place. -/
theorem insertShift_any (base : Nat) (l : List Arv) (g cap : Nat) (w : World) (h : Own base 63 w (.slice (some ⟨g, 0, none⟩) l.length cap) l) (i : Nat) (hi : i < l.length) (hroom : l.length + 1 ≤ cap) (hcap : cap ≤ maxLen) (x : Arv) (vb : Nat) (hvb : Box w vb 63 (Cel.cells x).toArray) (hlt : g < vb) (hl : l.length ≤ 1000000) :
    Calls Tryz.prog 65 #[.slice (some ⟨g, 0, none⟩) l.length cap, .int .i64 (i : Nat), .slice (some ⟨vb, 0, none⟩) 1 1] w (fun e w' => e = .returned (.slice (some ⟨g, 0, none⟩) (l.length + 1) cap) ∧ w' = (w.drew.setCells g ((i + 1) * 5) ((l.drop i).flatMap Cel.cells)).setCells g (i * 5) (Cel.cells x)) := by
  obtain ⟨cur, hbx, hsz, hbg, -, -, hA⟩ := h.spare
  have hk : Cel.k Arv = 5 := rfl
  have hsome : ∀ t, t < (l.length + 1) * 5 → (w.cell? ⟨g, t, none⟩).isSome = true := fun t ht => by
    rw [hbx.cell, Array.getElem?_eq_getElem (by rw [hsz, hk]; omega)]; rfl
  have hfz := hbx.frozen
  have hdl : ((l.drop i).flatMap Cel.cells).length = (l.length - i) * 5 := by rw [flat_cells_len, List.length_drop, hk]
  have hone : ∀ v ∈ (l.drop i).flatMap Cel.cells, v.oneCell' = true := fun u hu => by
    obtain ⟨y, _, hy⟩ := List.mem_flatMap.1 hu
    exact Cel.one y u hy
  have hsz5 : (Tryz.prog.info? 63).map (·.size) = some 5 := by kernel_rfl
  have hov : ∀ ad lb cb, (callFunc 94 #[.slice (some ⟨vb, 0, none⟩) 1 1, .slice (some ⟨g, ad, none⟩) lb cb]).run Tryz.prog w = .ok (.value (.bool false)) w := fun ad lb cb => by
    rw [run_callFunc_extern Tryz.func94 (by kernel_rfl) (by kernel_rfl) (by kernel_rfl) (e := Extern.SlicesOverlaps.overlaps #[30, 30] #[4]) (by kernel_rfl),
      Lib.run_overlaps_apart w 30 4 63 Tryz.underlying30 5 (fun w => Tryz.sizeOf63 w) ⟨vb, 0, none⟩ ⟨g, ad, none⟩ 1 1 lb cb (by show vb ≠ g; omega) _ _ _ _ hvb.shape hbx.shape (by rw [hsz, hk]; omega) (hvb.frozen _) (hvb.frozen _)]
    rfl
  have hcp1 : ∀ ty dc sc dl sl ad aq, dl = l.length - i → sl = l.length + 1 - i → ad = (i + 1) * 5 → aq = i * 5 → (Builtin.copy_ #[30, 30] ty #[.slice (some ⟨g, ad, none⟩) dl dc, .slice (some ⟨g, aq, none⟩) sl sc]).run Tryz.prog w.drew = .ok (goInt (Nat.min sl dl)) (w.drew.setCells g ((i + 1) * 5) ((l.drop i).flatMap Cel.cells)) := fun ty dc sc dl sl ad aq e1 e2 e3 e4 => by
    subst e1 e2 e3 e4
    refine run_copy_many w.drew _ _ ty 63 g ((i + 1) * 5) _ dc ⟨g, i * 5, none⟩ _ sc 5 ((l.drop i).flatMap Cel.cells) Tryz.underlying30 hsz5 (by rw [hdl]; congr 1; simp only [Nat.min_def]; split <;> omega) ?_ (fun j hj => hsome _ (by rw [hdl] at hj; omega)) (fun j hj => hfz _) hone
    intro j u hj
    rw [Addr.add_lit]
    have hjl : j < (l.length - i) * 5 := by rw [← hdl]; exact (List.getElem?_eq_some_iff.1 hj).1
    have h1 := hA (i + j / 5) (j % 5) l[i + j / 5] (List.getElem?_eq_getElem (by omega)) (by rw [hk]; omega)
    have h2 := flat_get (l.drop i) (j / 5) (j % 5) l[i + j / 5] (by rw [List.getElem?_drop]; exact List.getElem?_eq_getElem (by omega)) (by rw [hk]; omega)
    rw [hk] at h1 h2
    rw [show j / 5 * 5 + j % 5 = j by omega] at h2
    rw [show 0 + ((i + j / 5) * 5 + j % 5) = i * 5 + j by omega] at h1
    show w.cell? _ = _
    rw [h1, ← h2, hj]
  obtain ⟨W1, hW1⟩ : ∃ W1, W1 = w.drew.setCells g ((i + 1) * 5) ((l.drop i).flatMap Cel.cells) := ⟨_, rfl⟩
  have hsome1 : ∀ t, t < (l.length + 1) * 5 → (W1.cell? ⟨g, t, none⟩).isSome = true := fun t ht => by
    rw [hW1]
    exact isSome_setCells g _ _ w.drew (fun j hj => hsome ((i + 1) * 5 + j) (by rw [hdl] at hj; omega)) _ (hsome t ht)
  have hcp2 : ∀ (W : World), (∀ x, W.cell? x = W1.cell? x) → (∀ x, W.frozen? x = W1.frozen? x) → ∀ ty dc dl ad, 1 ≤ dl → ad = i * 5 → (Builtin.copy_ #[30, 30] ty #[.slice (some ⟨g, ad, none⟩) dl dc, .slice (some ⟨vb, 0, none⟩) 1 1]).run Tryz.prog W = .ok (goInt (Nat.min 1 dl)) (W.setCells g (i * 5) (Cel.cells x)) := fun W hWc hWf ty dc dl ad e1 e2 => by
    subst e2
    refine run_copy_many W _ _ ty 63 g (i * 5) _ dc ⟨vb, 0, none⟩ _ 1 5 (Cel.cells x) Tryz.underlying30 hsz5 (by rw [Cel.len, hk]; have e : Nat.min 1 dl = 1 := Nat.min_eq_left e1; rw [e]) ?_ (fun j hj => by rw [hWc]; exact hsome1 _ (by rw [Cel.len, hk] at hj; omega)) (fun j hj => by rw [hWf, hW1, World.frozen?_setCells]; exact hfz _) (Cel.one x)
    intro j u hj
    rw [Addr.add_lit, hWc, hW1, World.cell?_setCells_out g _ _ _ _ (fun h _ => absurd h (by show vb ≠ g; omega))]
    have := hvb.cell j
    rw [show (0 + j) = j by omega]
    show w.cell? _ = _
    rw [this]
    simpa using hj
  rw [← hW1] at hcp1
  clear h hbx hvb hA hsome hone hdl hsz hsz5 hfz
  have mixed : Tryz.prog.follows .mixedOrders = true := by kernel_rfl
  have hz1 : ((i : Int) == (l.length : Int)) = false := by rw [beq_eq_false_iff_ne]; omega
  have hw1 : IntKind.i64.wrap ((i : Int) + 1) = (i : Int) + 1 := IntWalk.i64_in _ (by omega)
  have hw2 : IntKind.i64.wrap ((l.length : Int) + 1) = (l.length : Int) + 1 := IntWalk.i64_in _ (by omega)
  have hb0 : (0 : Int) ≤ (i : Int) := by omega
  have hb1 : (0 : Int) ≤ (i : Int) + 1 := by omega
  have hin : i ≤ l.length := by omega
  have hb2 : ¬ (cap = i + 1) := by omega
  have hb3 : ¬ (cap = i) := by omega
  have hb4 : (i : Int) ≤ (l.length : Int) + 1 := by omega
  have hgt : decide ((cap : Int) < (l.length : Int) + 1) = false := decide_eq_false (by omega)
  go_enter Tryz.func65, Tryz.ntmps65
  go_wp2_with (simp only [hov])
  go_region_law_o (refine step_copy_runI rfl _ _ 30 30 rfl _ _ (by simp [Act.eval, Act.put]) (by simp [Act.eval, Act.put]) (hcp1 _ _ _ _ _ _ _ (by omega) (by omega) (by omega) (by omega)) ?_)
  have hcpX := hcp2 _ (fun _ => rfl) (fun _ => rfl) 3 (cap - i) (l.length + 1 - i) (i * 5) (by omega) rfl
  rw [hW1] at hcpX
  go_wp2_with fail
  go_ret
  first | exact ⟨rfl, rfl⟩ | exact ⟨rfl, by rw [hW1]⟩
end Go.Proofs.YtifflpilnpcmoaaGreatDoor

/-! slices.Insert of one api.Arrival, where there is no room. -/
namespace Go.Proofs.YtifflpilnpcmoaaGreatDoor
open Go.RowKit
set_option linter.unusedVariables false
set_option linter.unusedSimpArgs false

theorem same_drew (w : World) (ROW : Array Value) (E g o : Nat) (xs : List Value) : (∀ y, (((w.alloc (.cells ROW E)).drew.setCells g o xs).drew).cell? y = ((w.drew.alloc (.cells ROW E)).setCells g o xs).cell? y) ∧ (∀ y, (((w.alloc (.cells ROW E)).drew.setCells g o xs).drew).frozen? y = ((w.drew.alloc (.cells ROW E)).setCells g o xs).frozen? y) := ⟨fun _ => rfl, fun _ => rfl⟩
set_option maxRecDepth 100000 in
set_option maxHeartbeats 8000000 in
/-- Between others, without room: a new row. -/
theorem insertGrow_any (base : Nat) (l : List Arv) (g cap : Nat) (w : World) (h : Own base 63 w (.slice (some ⟨g, 0, none⟩) l.length cap) l) (i : Nat) (hi : i < l.length) (hroom : cap < l.length + 1) (hcap : l.length ≤ cap) (x : Arv) (vb : Nat) (hvb : Box w vb 63 (Cel.cells x).toArray) (hlt : g < vb) (hl : l.length ≤ 1000000) :
    Calls Tryz.prog 65 #[.slice (some ⟨g, 0, none⟩) l.length cap, .int .i64 (i : Nat), .slice (some ⟨vb, 0, none⟩) 1 1] w (fun e w' => ∃ G, e = .returned (.slice (some ⟨w.heap.size, 0, none⟩) (l.length + 1) G) ∧ l.length + 1 ≤ G ∧ G ≤ maxLen ∧ ∃ ROW : Array Value, ROW.size = G * 5 ∧ (∀ j, j < i * 5 → ROW[j]? = (l.flatMap Cel.cells)[j]?) ∧ w' = (((w.alloc (.cells ROW 63)).drew.setCells w.heap.size (i * 5) (Cel.cells x)).drew).setCells w.heap.size ((i + 1) * 5) ((l.drop i).flatMap Cel.cells)) := by
  obtain ⟨cur, hbx, hsz, hbg, -, -, hA⟩ := h.spare
  have hk : Cel.k Arv = 5 := rfl
  have hbw : g < w.heap.size := hbx.lt
  have hvw : vb < w.heap.size := hvb.lt
  obtain ⟨i0, hi0, hz0, hzs, hzb⟩ := info_parts infoArr
  have hfl : (l.flatMap Cel.cells).length = l.length * 5 := by rw [flat_cells_len, hk]
  have hsplit : l.flatMap Cel.cells = (l.take i).flatMap Cel.cells ++ (l.drop i).flatMap Cel.cells := by rw [← List.flatMap_append, List.take_append_drop]
  have htl : ((l.take i).flatMap Cel.cells).length = i * 5 := by rw [flat_cells_len, List.length_take, hk, Nat.min_eq_left (by omega)]
  have hdl : ((l.drop i).flatMap Cel.cells).length = (l.length - i) * 5 := by rw [flat_cells_len, List.length_drop, hk]
  have hone : ∀ v ∈ (l.drop i).flatMap Cel.cells, v.oneCell' = true := fun u hu => by
    obtain ⟨y, _, hy⟩ := List.mem_flatMap.1 hu
    exact Cel.one y u hy
  have hsz5 : (Tryz.prog.info? 63).map (·.size) = some 5 := by rw [hi0]; simp [hzs]
  have hcell : ∀ j u, (l.flatMap Cel.cells)[j]? = some u → w.cell? ⟨g, j, none⟩ = some u := fun j u hj => by
    have hjl : j < l.length * 5 := by rw [← hfl]; exact (List.getElem?_eq_some_iff.1 hj).1
    have h1 := hA (j / 5) (j % 5) l[j / 5] (List.getElem?_eq_getElem (by omega)) (by rw [hk]; omega)
    have h2 := flat_get l (j / 5) (j % 5) l[j / 5] (List.getElem?_eq_getElem (by omega)) (by rw [hk]; omega)
    rw [hk] at h1 h2
    rw [show j / 5 * 5 + j % 5 = j by omega] at h2
    rw [show 0 + (j / 5 * 5 + j % 5) = j by omega] at h1
    rw [h1, ← h2, hj]
  have hold : (Builtin.firstCells i0.size i (.slice (some ⟨g, 0, none⟩) i cap)).run Tryz.prog w.drew = .ok ((l.take i).flatMap Cel.cells).toArray w.drew := by
    rw [hzs]
    exact run_firstCells_some w.drew 5 i ⟨g, 0, none⟩ i cap ((l.take i).flatMap Cel.cells) (by rw [htl]) (fun j u hj => by
      rw [Addr.add_lit, Nat.zero_add]
      have hjl : j < i * 5 := by rw [← htl]; exact (List.getElem?_eq_some_iff.1 hj).1
      refine hcell j u ?_
      rw [hsplit, List.getElem?_append_left (by rw [htl]; exact hjl)]
      exact hj)
  obtain ⟨G, hG⟩ : ∃ G, G = grownCap w (l.length + 1) cap 63 := ⟨_, rfl⟩
  obtain ⟨ROW, hROW⟩ : ∃ ROW : Array Value, ROW = ((l.take i).flatMap Cel.cells).toArray ++ Builtin.zeroCells (Value.agg #[.string ⟨#[]⟩, .int .i64 0, .int .i64 0, .string ⟨#[]⟩, .string ⟨#[]⟩]).cells (l.length + 1 - i) ++ Builtin.zeroCells (Value.agg #[.string ⟨#[]⟩, .int .i64 0, .int .i64 0, .string ⟨#[]⟩, .string ⟨#[]⟩]).cells (G - (l.length + 1)) := ⟨_, rfl⟩
  have hrz : ∀ ty, (Builtin.append_ #[30, 3] ty #[.slice (some ⟨g, 0, none⟩) i cap, .int .i64 ((l.length : Int) + 1 - (i : Int))]).run Tryz.prog w = .ok (.slice (some ⟨w.heap.size, 0, none⟩) (l.length + 1) G) (w.drew.alloc (.cells ROW 63)) := fun ty => by
    have h := Lib.run_append_grow_zeros w 30 3 ty 63 i0 _ .i64 .i64 Tryz.underlying30 Tryz.underlying3 hi0 hz0 (some ⟨g, 0, none⟩) i cap ((l.take i).flatMap Cel.cells) hold (l.length + 1 - i) (by omega) (by omega) (by omega) (by omega) (by rw [hzb]; omega) (by rw [hzb, show i + (l.length + 1 - i) = l.length + 1 by omega]; exact growslice_fits hroom (by omega))
    rw [show i + (l.length + 1 - i) = l.length + 1 by omega, ← hG, ← hROW] at h
    rw [show (l.length : Int) + 1 - (i : Int) = ((l.length + 1 - i : Nat) : Int) by omega]
    exact h
  have hGn : l.length + 1 ≤ G := by rw [hG]; exact grownCap_ge w _ _ _
  have hGm : G ≤ maxLen := by rw [hG]; exact grownCap_le_maxLen w (l.length + 1) cap 63 (by unfold maxLen; omega)
  have hRs : ROW.size = G * 5 := by
    rw [hROW]
    simp only [Array.size_append, List.size_toArray, htl, Builtin.zeroCells, Value.cells, Array.size_map, Array.size_range]
    simp
    omega
  have hRt : ∀ j, j < i * 5 → ROW[j]? = (l.flatMap Cel.cells)[j]? := fun j hj => by
    rw [hROW, Array.getElem?_append_left (by simp [htl]; omega), Array.getElem?_append_left (by simp [htl]; omega), hsplit, List.getElem?_append_left (by rw [htl]; exact hj)]
    simp
  clear hROW hold hG
  obtain ⟨W1, hW1⟩ : ∃ W1, W1 = w.drew.alloc (.cells ROW 63) := ⟨_, rfl⟩
  rw [← hW1] at hrz
  have hN : ∀ j, j < G * 5 → (W1.cell? ⟨w.heap.size, j, none⟩).isSome = true := fun j hj => by
    rw [hW1, World.cell?_alloc_at (w := w.drew) ROW _ w.heap.size j rfl, Array.getElem?_eq_getElem (by omega)]; rfl
  have hNf : ∀ j, W1.frozen? ⟨w.heap.size, j, none⟩ = false := fun j => by rw [hW1]; exact World.frozen?_alloc_at (w := w.drew) ROW _ w.heap.size j rfl
  have hOb : ∀ j u, w.cell? ⟨g, j, none⟩ = some u → W1.cell? ⟨g, j, none⟩ = some u := fun j u h => by rw [hW1, World.cell?_alloc_past (w := w.drew) _ g j hbw]; exact h
  have hOv : ∀ j u, w.cell? ⟨vb, j, none⟩ = some u → W1.cell? ⟨vb, j, none⟩ = some u := fun j u h => by rw [hW1, World.cell?_alloc_past (w := w.drew) _ vb j hvw]; exact h
  have hcx : ∀ j u, (Cel.cells x)[j]? = some u → w.cell? ⟨vb, j, none⟩ = some u := fun j u hj => by
    rw [hvb.cell j]
    simpa using hj
  have hcpA : ∀ (W : World), (∀ x, W.cell? x = W1.cell? x) → (∀ x, W.frozen? x = W1.frozen? x) → ∀ ty dc dl ad, 1 ≤ dl → ad = i * 5 → (Builtin.copy_ #[30, 30] ty #[.slice (some ⟨w.heap.size, ad, none⟩) dl dc, .slice (some ⟨vb, 0, none⟩) 1 1]).run Tryz.prog W = .ok (goInt (Nat.min 1 dl)) (W.setCells w.heap.size (i * 5) (Cel.cells x)) := fun W hWc hWf ty dc dl ad e1 e2 => by
    subst e2
    refine run_copy_many W _ _ ty 63 w.heap.size (i * 5) _ dc ⟨vb, 0, none⟩ _ 1 5 (Cel.cells x) Tryz.underlying30 hsz5 (by rw [Cel.len, hk]; have e : Nat.min 1 dl = 1 := Nat.min_eq_left e1; rw [e]) (fun j u hj => ?_) (fun j hj => by rw [hWc]; exact hN _ (by rw [Cel.len, hk] at hj; omega)) (fun j hj => by rw [hWf]; exact hNf _) (Cel.one x)
    rw [Addr.add_lit, hWc, Nat.zero_add]
    exact hOv j u (hcx j u hj)
  have hbN : g ≠ w.heap.size := by omega
  have hcpB : ∀ (W : World), (∀ y, W.cell? y = (W1.setCells w.heap.size (i * 5) (Cel.cells x)).cell? y) → (∀ y, W.frozen? y = (W1.setCells w.heap.size (i * 5) (Cel.cells x)).frozen? y) → ∀ ty dc sc dl sl ad aq, dl = l.length - i → sl = l.length - i → ad = (i + 1) * 5 → aq = i * 5 → (Builtin.copy_ #[30, 30] ty #[.slice (some ⟨w.heap.size, ad, none⟩) dl dc, .slice (some ⟨g, aq, none⟩) sl sc]).run Tryz.prog W = .ok (goInt (Nat.min sl dl)) (W.setCells w.heap.size ((i + 1) * 5) ((l.drop i).flatMap Cel.cells)) := fun W hWc hWf ty dc sc dl sl ad aq e1 e2 e3 e4 => by
    subst e1 e2 e3 e4
    refine run_copy_many W _ _ ty 63 w.heap.size ((i + 1) * 5) _ dc ⟨g, i * 5, none⟩ _ sc 5 ((l.drop i).flatMap Cel.cells) Tryz.underlying30 hsz5 (by rw [hdl]; have e : Nat.min (l.length - i) (l.length - i) = l.length - i := Nat.min_self _; rw [e]) (fun j u hj => ?_) (fun j hj => ?_) (fun j hj => by rw [hWf, World.frozen?_setCells]; exact hNf _) hone
    · rw [Addr.add_lit, hWc, World.cell?_setCells_out _ _ _ _ _ (fun h _ => absurd h hbN)]
      refine hOb _ u (hcell _ u ?_)
      rw [hsplit, List.getElem?_append_right (by rw [htl]; omega), htl, Nat.add_sub_cancel_left]
      exact hj
    · rw [hWc]
      refine isSome_setCells _ _ _ _ (fun t ht => hN (i * 5 + t) (by rw [Cel.len, hk] at ht; omega)) _ (hN ((i + 1) * 5 + j) (by rw [hdl] at hj; omega))
  subst hW1
  have HA := Lib.hid hcpA
  have HB := Lib.hid hcpB
  clear hbN hcpA hcpB
  have HFIN : Hid (l.length + 1 ≤ G ∧ G ≤ maxLen ∧ ROW.size = G * 5 ∧ ∀ j, j < i * 5 → ROW[j]? = (l.flatMap Cel.cells)[j]?) := ⟨hGn, hGm, hRs, hRt⟩
  clear h hbx hvb hA hone hdl htl hfl hsplit hcell hsz hsz5 hRs hRt hN hNf hOb hOv hcx hi0 hz0 hzs hzb
  have mixed : Tryz.prog.follows .mixedOrders = true := by kernel_rfl
  have hz1 : ((i : Int) == (l.length : Int)) = false := by rw [beq_eq_false_iff_ne]; omega
  have hw1 : IntKind.i64.wrap ((i : Int) + 1) = (i : Int) + 1 := IntWalk.i64_in _ (by omega)
  have hw2 : IntKind.i64.wrap ((l.length : Int) + 1) = (l.length : Int) + 1 := IntWalk.i64_in _ (by omega)
  have hw3 : IntKind.i64.wrap ((l.length : Int) + 1 - (i : Int)) = (l.length : Int) + 1 - (i : Int) := IntWalk.i64_in _ (by omega)
  have hb0 : (0 : Int) ≤ (i : Int) := by omega
  have hb1 : (0 : Int) ≤ (i : Int) + 1 := by omega
  have hin : i ≤ l.length := by omega
  have hGi : ¬ (G = i) := by omega
  have hGim : ¬ (G = i + 1) := by omega
  have hci : ¬ (cap = i) := by omega
  have hb4 : (i : Int) ≤ (l.length : Int) + 1 := by omega
  have hgt : decide ((cap : Int) < (l.length : Int) + 1) = true := decide_eq_true (by omega)
  go_enter Tryz.func65, Tryz.ntmps65
  have hX1 := HA.out ((w.alloc (.cells ROW 63)).drew) (fun _ => rfl) (fun _ => rfl) 3 (G - i) (l.length + 1 - i) (i * 5) (by omega) rfl
  go_wp2_with (at_builtin; refine Lib.wpList_append_run _ rfl _ _ _ _ rfl _ _ rfl rfl _ _ (hrz _) ?_)
  have HX2 := Lib.hid (HB.out (((w.alloc (.cells ROW 63)).drew.setCells w.heap.size (i * 5) (Cel.cells x)).drew) (same_drew _ _ _ _ _ _).1 (same_drew _ _ _ _ _ _).2)
  have hX3 := HX2.out 3 (G - (i + 1)) (cap - i) (l.length - i) (l.length - i) ((i + 1) * 5) (i * 5) rfl rfl rfl rfl
  go_region_law_o (fail)
  go_wp2_with fail
  go_ret
  exact ⟨G, rfl, HFIN.out.1, HFIN.out.2.1, ROW, HFIN.out.2.2.1, HFIN.out.2.2.2, rfl⟩
end Go.Proofs.YtifflpilnpcmoaaGreatDoor

/-! slices.Insert of one api.Arrival, at any place. -/
namespace Go.Proofs.YtifflpilnpcmoaaGreatDoor
open Go.RowKit
set_option linter.unusedVariables false
set_option linter.unusedSimpArgs false

theorem insertArr_any (base : Nat) (l : List Arv) (v : Value) (w : World) (h : Own base 63 w v l) (i : Nat) (hi : i ≤ l.length) (x : Arv) (vb : Nat) (hvb : Box w vb 63 (Cel.cells x).toArray) (hlt : ∀ j, v.ownBlock = some j → j < vb) (hbase : base ≤ w.heap.size) (hl : l.length ≤ 1000000) :
    Calls Tryz.prog 65 #[v, .int .i64 (i : Nat), .slice (some ⟨vb, 0, none⟩) 1 1] w (fun e w' => ∃ v', e = .returned v' ∧ Own base 63 w' v' (l.take i ++ x :: l.drop i) ∧ Kp (fun j => v.ownBlock = some j) w w' ∧ ∀ j, v'.ownBlock = some j → v.ownBlock = some j ∨ w.heap.size ≤ j) := by
  have hk : Cel.k Arv = 5 := rfl
  rcases Nat.lt_or_eq_of_le hi with hi | rfl
  · obtain ⟨la, cap, rfl, hsa, hlf, hcap⟩ := h.form
    obtain ⟨g, rfl, hg1, hg2⟩ : ∃ g, la = some ⟨g, 0, none⟩ ∧ base ≤ g ∧ g < w.heap.size := by
      rcases hlf with rfl | ⟨g, rfl, h1, h2⟩
      · rcases hsa with h1 | ⟨b, off, h1, -⟩
        · rw [h1] at hi; simp at hi
        · cases h1
      · exact ⟨g, rfl, h1, h2⟩
    have hgv := hlt g rfl
    have hcm : cap ≤ maxLen := by
      rcases h.2 with ⟨h2, _⟩ | ⟨g', cap', cur, he, r1, r2, r3, r4, r5, r6⟩
      · cases h2
      · cases he; exact r4
    by_cases hroom : l.length + 1 ≤ cap
    · refine (insertShift_any base l g cap w h i hi hroom hcm x vb hvb hgv hl).mono ?_
      rintro e w' ⟨rfl, rfl⟩
      have hown := Own.insert (Own.drew h) (i := i) (x := x) (by omega) hroom
      rw [hk] at hown
      have q1 : Kp (fun j => (Value.slice (some ⟨g, 0, none⟩) l.length cap).ownBlock = some j) w w.drew := (Kp.refl _ w).drew
      have q2 := kp_sets (X := fun j => (Value.slice (some ⟨g, 0, none⟩) l.length cap).ownBlock = some j) (g := g) (.inl rfl) ((l.drop i).flatMap Cel.cells) ((i + 1) * 5) q1
      have q3 := kp_sets (X := fun j => (Value.slice (some ⟨g, 0, none⟩) l.length cap).ownBlock = some j) (g := g) (.inl rfl) (Cel.cells x) (i * 5) q2
      exact ⟨_, rfl, hown, q3, fun j hj => .inl hj⟩
    · refine (insertGrow_any base l g cap w h i hi (by omega) hcap x vb hvb hgv hl).mono ?_
      rintro e w' ⟨G, rfl, hG1, hG2, ROW, hRs, hRt, rfl⟩
      have hlen : (l.take i ++ x :: l.drop i).length = l.length + 1 := by simp; omega
      have hb1 := Box.new w 63 ROW
      have har := arr_insert2 (w := (w.alloc (.cells ROW 63)).drew) (g := w.heap.size) (l := l) (i := i) (x := x) (by omega) (fun p j y hp hy hj => ?_) (fun t ht => ?_)
      · rw [hk] at har
        rw [← drew_setCells]
        generalize Cel.cells x = xs at *
        generalize (l.drop i).flatMap Cel.cells = ds at *
        obtain ⟨c1, k1, e1⟩ := (Box.drew hb1).sets xs (i * 5)
        obtain ⟨c2, k2, e2⟩ := k1.sets ds ((i + 1) * 5)
        have q1 : Kp (fun j => (Value.slice (some ⟨g, 0, none⟩) l.length cap).ownBlock = some j) w (w.alloc (.cells ROW 63)).drew := ((Kp.refl _ w).alloc _).drew
        have q2 := kp_sets (g := w.heap.size) (.inr (Nat.le_refl _)) xs (i * 5) q1
        have q3 := (kp_sets (g := w.heap.size) (.inr (Nat.le_refl _)) ds ((i + 1) * 5) q2).drew
        have hown := Own.laid (base := base) (cap := G) (l := l.take i ++ x :: l.drop i) k2 hbase (by rw [e2, e1, hRs, hk]) hG2 (by omega) har
        rw [hlen] at hown
        have hown2 := hown.drew
        generalize (((w.alloc (.cells ROW 63)).drew.setCells w.heap.size (i * 5) xs).setCells w.heap.size ((i + 1) * 5) ds).drew = W9 at *
        exact ⟨_, rfl, hown2, q3, fun j hj => .inr (by have : w.heap.size = j := Option.some.inj hj; omega)⟩
      · rw [hk] at hj ⊢
        have hpl : p < l.length := (List.getElem?_eq_some_iff.1 hy).1
        have h1 := flat_get l p j y hy hj
        rw [hk] at h1
        show (w.alloc (.cells ROW 63)).cell? _ = _
        rw [hb1.cell, hRt _ (by omega), h1]
      · rw [hk] at ht
        show ((w.alloc (.cells ROW 63)).cell? _).isSome = true
        rw [hb1.cell, Array.getElem?_eq_getElem (by omega)]
        rfl
  · refine (insertEnd_any base l v w h x vb hvb hbase hl).mono ?_
    rintro e w' ⟨v', rfl, h1, h2, h3⟩
    exact ⟨v', rfl, by rw [List.take_length, List.drop_length]; exact h1, h2, h3⟩
end Go.Proofs.YtifflpilnpcmoaaGreatDoor

/-! slices.BinarySearchFunc of []api.Arrival. -/
namespace Go.Proofs.YtifflpilnpcmoaaGreatDoor
open Go.RowKit
set_option linter.unusedVariables false
set_option linter.unusedSimpArgs false

/-- Ten cells stay while memory grows. -/
theorem cells10 {W w w' : World} {a0 a1 a2 a3 a4 a5 a6 a7 a8 a9 : Nat} {o0 o1 o2 o3 o4 o5 o6 o7 o8 o9 : Nat} {v0 v1 v2 v3 v4 v5 v6 v7 v8 v9 : Value}
    (h : (w.cell? ⟨a0, o0, none⟩ = some v0 ∧ w.cell? ⟨a1, o1, none⟩ = some v1 ∧ w.cell? ⟨a2, o2, none⟩ = some v2 ∧ w.cell? ⟨a3, o3, none⟩ = some v3 ∧ w.cell? ⟨a4, o4, none⟩ = some v4 ∧ w.cell? ⟨a5, o5, none⟩ = some v5 ∧ w.cell? ⟨a6, o6, none⟩ = some v6 ∧ w.cell? ⟨a7, o7, none⟩ = some v7 ∧ w.cell? ⟨a8, o8, none⟩ = some v8 ∧ w.cell? ⟨a9, o9, none⟩ = some v9) ∧ Grw W w) (hg : Grw w w') :
    (w'.cell? ⟨a0, o0, none⟩ = some v0 ∧ w'.cell? ⟨a1, o1, none⟩ = some v1 ∧ w'.cell? ⟨a2, o2, none⟩ = some v2 ∧ w'.cell? ⟨a3, o3, none⟩ = some v3 ∧ w'.cell? ⟨a4, o4, none⟩ = some v4 ∧ w'.cell? ⟨a5, o5, none⟩ = some v5 ∧ w'.cell? ⟨a6, o6, none⟩ = some v6 ∧ w'.cell? ⟨a7, o7, none⟩ = some v7 ∧ w'.cell? ⟨a8, o8, none⟩ = some v8 ∧ w'.cell? ⟨a9, o9, none⟩ = some v9) ∧ Grw W w' := by
  obtain ⟨⟨h0, h1, h2, h3, h4, h5, h6, h7, h8, h9⟩, hW⟩ := h
  have hb := hg.1
  exact ⟨⟨cell_later hb h0, cell_later hb h1, cell_later hb h2, cell_later hb h3, cell_later hb h4, cell_later hb h5, cell_later hb h6, cell_later hb h7, cell_later hb h8, cell_later hb h9⟩, hW.trans hg⟩
theorem posA_lt {l : List Arv} (h : RiseA l) (a : Arv) (t : Nat) (ht : t < l.length) : cmpA l[t] a < 0 ↔ t < posA l a := by
  obtain ⟨h1, h2⟩ := posA_ahead h a
  constructor
  · intro hc
    apply Classical.byContradiction
    intro hn
    exact h2 l[t] (List.mem_drop_iff_getElem.2 ⟨t - posA l a, by omega, by congr 1; omega⟩) hc
  · intro hp
    exact h1 l[t] (List.mem_take_iff_getElem.2 ⟨t, by omega, rfl⟩)
set_option maxRecDepth 100000 in
set_option maxHeartbeats 4000000 in
theorem searchArr_any (l : List Arv) (a : Option Addr) (cap g : Nat) (x : Arv) (w : World) (eg : ∀ args w, (callFunc g args).run Tryz.prog w = .ok (.enter g args) w) (hc : ∀ x y W, Calls Tryz.prog g #[encA x, encA y] W (fun e w' => e = .returned (.int .i64 (cmpA x y)) ∧ Grw W w'))
    (h : SA w a l) (hr : RiseA l) (hl : l.length ≤ 1000000) :
    Calls Tryz.prog 64 #[.slice a l.length cap, encA x, .func (.func g) #[] #[]] w (Gives (.tuple #[.int .i64 (posA l x : Nat), .bool (decide (x ∈ l))]) w) := by
  have HC := Lib.hid hc
  have HL := Lib.hid (posA_lt hr x)
  have HF := Lib.hid (found_iff hr x)
  have Hle := Lib.hid (posA_le l x)
  clear hc hr
  generalize hfd : decide (x ∈ l) = fd
  have HFD := Lib.hid hfd
  clear hfd
  generalize posA l x = p at *
  have hpl := Hle.out
  obtain ⟨x1, x2, x3, x4, x5⟩ := x
  have hX := Box.new w 63 #[.string x1, .int .i64 x2, .int .i64 x3, .string x4, .string x5]
  have hsa0 := h.alloc (.cells #[.string x1, .int .i64 x2, .int .i64 x3, .string x4, .string x5] 63)
  have hb0 : Below w.heap.size w (w.alloc (.cells #[.string x1, .int .i64 x2, .int .i64 x3, .string x4, .string x5] 63)) := (Below.refl _ _).alloc (Nat.le_refl _) _
  unfold encA
  go_enter Tryz.func64, Tryz.ntmps64
  go_wp2_with fail
  go_loopg [9, 10] l.length (fun gk s9 s10 wr => ∃ lo hi : Nat, s9 = .int .i64 lo ∧ s10 = .int .i64 hi ∧ lo ≤ hi ∧ hi ≤ l.length ∧ Hid (hi - lo ≤ gk) ∧ lo ≤ p ∧ p ≤ hi ∧ Box wr w.heap.size 63 #[.string x1, .int .i64 x2, .int .i64 x3, .string x4, .string x5] ∧ SA wr a l ∧ Below w.heap.size w wr)
  case atStart => exact ⟨0, l.length, rfl, rfl, by omega, by omega, Nat.le_refl _, by omega, hpl, hX, hsa0, hb0⟩
  case round =>
    clear hX hsa0 hb0 h
    obtain ⟨lo, hi, rfl, rfl, hlh, hil, hgk, hlo, hhi, hX, hsa, hb⟩ := hrel
    have HX := Lib.hid hX
    have HSA := Lib.hid hsa
    by_cases hlt : lo < hi
    · obtain ⟨m, hm⟩ : ∃ m, (lo + hi) / 2 = m := ⟨_, rfl⟩
      have hm1 : ((lo : Int) + (hi : Int)) / 2 = (m : Int) := by omega
      have hm2 : m < l.length := by omega
      have hm3 : (0 : Int) ≤ (m : Int) := by omega
      have hm4 : (m : Int) < (l.length : Int) := by omega
      obtain ⟨b, off, ha, c0, c1, c2, c3, c4⟩ := hsa.arv hm2
      have Ha := Lib.hid ha
      have HLm := Lib.hid (HL.out m hm2)
      have HCm := Lib.hid (fun W => HC.out l[m] (x1, x2, x3, x4, x5) W)
      rw [ha]
      clear ha hsa
      generalize l[m] = y at *
      obtain ⟨y1, y2, y3, y4, y5⟩ := y
      obtain ⟨cv, hcv⟩ : ∃ cv, cmpA (y1, y2, y3, y4, y5) (x1, x2, x3, x4, x5) = cv := ⟨_, rfl⟩
      rw [hcv] at HLm HCm
      clear hcv
      unfold encA at HCm
      simp only at c0 c1 c2 c3 c4 HCm
      go_upto_region 5 with (fail)
      have hX_l := hX.lt; have hX_0 := hX.cell 0; have hX_1 := hX.cell 1; have hX_2 := hX.cell 2; have hX_3 := hX.cell 3; have hX_4 := hX.cell 4; simp at hX_0 hX_1 hX_2 hX_3 hX_4
      refine wp_region_held_drew (S := (fun wx => (wx.cell? ⟨w.heap.size, 0, none⟩ = some (.string x1) ∧ wx.cell? ⟨w.heap.size, 1, none⟩ = some (.int .i64 x2) ∧ wx.cell? ⟨w.heap.size, 2, none⟩ = some (.int .i64 x3) ∧ wx.cell? ⟨w.heap.size, 3, none⟩ = some (.string x4) ∧ wx.cell? ⟨w.heap.size, 4, none⟩ = some (.string x5) ∧ wx.cell? ⟨b, off + m * 5, none⟩ = some (.string y1) ∧ wx.cell? ⟨b, off + m * 5 + 1, none⟩ = some (.int .i64 y2) ∧ wx.cell? ⟨b, off + m * 5 + 2, none⟩ = some (.int .i64 y3) ∧ wx.cell? ⟨b, off + m * 5 + 3, none⟩ = some (.string y4) ∧ wx.cell? ⟨b, off + m * 5 + 4, none⟩ = some (.string y5)) ∧ Grw wr wx)) (by kernel_rfl) ?hS (fun hHeld => ?_)
      case hS => exact ⟨⟨hX_0, hX_1, hX_2, hX_3, hX_4, c0, c1, c2, c3, c4⟩, (Grw.refl _).drew⟩
      refine rtake (i := 0) (d := (some 24)) (v := ?_) rfl (by kernel_rfl) (by kernel_rfl) (by kernel_rfl) (by kernel_rfl) (fun _ _ _ h => h) (by kernel_rfl) (by assumption) ?_ ?_
      rotate_left 1
      · (intro wI hSI; (try dsimp only at hSI); go_simp; (try with_reducible rfl))
      simp only [Act.put, List.setIfInBounds_toArray, List.set_cons_zero, List.set_cons_succ]
      refine rtake (i := 1) (d := (some 25)) (v := ?_) rfl (by kernel_rfl) (by kernel_rfl) (by kernel_rfl) (by kernel_rfl) (fun _ _ _ h => h) (by kernel_rfl) (by assumption) ?_ ?_
      rotate_left 1
      · (intro wI hSI; (try dsimp only at hSI); go_simp; (try with_reducible rfl))
      simp only [Act.put, List.setIfInBounds_toArray, List.set_cons_zero, List.set_cons_succ]
      refine rtake (i := 2) (d := (some 26)) (v := ?_) rfl (by kernel_rfl) (by kernel_rfl) (by kernel_rfl) (by kernel_rfl) (fun _ _ _ h => h) (by kernel_rfl) (by assumption) ?_ ?_
      rotate_left 1
      · (intro wI hSI; (try dsimp only at hSI); go_simp; (try with_reducible rfl))
      simp only [Act.put, List.setIfInBounds_toArray, List.set_cons_zero, List.set_cons_succ]
      refine rtake (i := 3) (d := (some 27)) (v := ?_) rfl (by kernel_rfl) (by kernel_rfl) (by kernel_rfl) (by kernel_rfl) (fun _ _ _ h => h) (by kernel_rfl) (by assumption) ?_ ?_
      rotate_left 1
      · (intro wI hSI; (try dsimp only at hSI); go_simp; (try with_reducible rfl))
      simp only [Act.put, List.setIfInBounds_toArray, List.set_cons_zero, List.set_cons_succ]
      refine rtake (i := 4) (d := (some 28)) (v := ?_) rfl (by kernel_rfl) (by kernel_rfl) (by kernel_rfl) (by kernel_rfl) (fun _ _ _ h => h) (by kernel_rfl) (by assumption) ?_ ?_
      rotate_left 1
      · (intro wI hSI; (try dsimp only at hSI); go_simp; (try with_reducible rfl))
      simp only [Act.put, List.setIfInBounds_toArray, List.set_cons_zero, List.set_cons_succ]
      refine rtake (i := 5) (d := (some 29)) (v := ?_) rfl (by kernel_rfl) (by kernel_rfl) (by kernel_rfl) (by kernel_rfl) (fun _ _ _ h => h) (by kernel_rfl) (by assumption) ?_ ?_
      rotate_left 1
      · (intro wI hSI; (try dsimp only at hSI); go_simp; (try with_reducible rfl))
      simp only [Act.put, List.setIfInBounds_toArray, List.set_cons_zero, List.set_cons_succ]
      refine rcall (i := 6) (d := (some 30)) (by kernel_rfl) rfl (by kernel_rfl) (fun K hK => ?_)
      go_simp
      go_at_fn g; refine (HCm.out _).mono ?_; rintro e w2 ⟨rfl, hg2⟩
      refine hK.out _ _ ?hS (fun hHeld => ?_)
      case hS => exact cells10 hHeld hg2
      clear hK K
      simp only [Act.put, List.setIfInBounds_toArray, List.set_cons_zero, List.set_cons_succ]
      refine rtake (i := 7) (d := (some 31)) (v := ?_) rfl (by kernel_rfl) (by kernel_rfl) (by kernel_rfl) (by kernel_rfl) (fun _ _ _ h => h) (by kernel_rfl) (by assumption) ?_ ?_
      rotate_left 1
      · (intro wI hSI; (try dsimp only at hSI); go_simp; (try with_reducible rfl))
      simp only [Act.put, List.setIfInBounds_toArray, List.set_cons_zero, List.set_cons_succ]
      refine wpAnyH_done (by kernel_rfl) ?_ _
      have hb2 := below_next hb hHeld.2.1
      have hX2 := HX.out.below hHeld.2.1
      have hsa2 := HSA.out.below hHeld.2.1
      clear hX_l hX_0 hX_1 hX_2 hX_3 hX_4
      clear hHeld c0 c1 c2 c3 c4 hg2 hX
      by_cases hcn : cv < 0
      · have hmp := HLm.out.1 hcn
        go_wp2_with fail
        rw [← Ha.out]
        go_roundg (hi - (m + 1))
        case measure => have := hgk.out; omega
        case rel => exact ⟨m + 1, hi, by go_num, rfl, by omega, by omega, Nat.le_refl _, by omega, by omega, hX2, hsa2, hb2⟩
      · have hmp : ¬ m < p := fun h => hcn (HLm.out.2 h)
        go_wp2_with fail
        rw [← Ha.out]
        go_roundg (m - lo)
        case measure => have := hgk.out; omega
        case rel => exact ⟨lo, m, rfl, by go_num, by omega, by omega, Nat.le_refl _, by omega, by omega, hX2, hsa2, hb2⟩
    · obtain rfl : hi = lo := by omega
      obtain rfl : p = hi := by omega
      by_cases hpn : p < l.length
      · obtain ⟨b, off, ha, c0, c1, c2, c3, c4⟩ := hsa.arv hpn
        have HCm := Lib.hid (fun W => HC.out l[p] (x1, x2, x3, x4, x5) W)
        have HFm : Hid (decide (cmpA l[p] (x1, x2, x3, x4, x5) = 0) = fd) := by
          show _ = _
          rw [← HFD.out]
          rw [Bool.eq_iff_iff, decide_eq_true_iff, decide_eq_true_iff, ← HF.out]
          exact ⟨fun h => ⟨hpn, h⟩, fun ⟨_, h⟩ => h⟩
        rw [ha]
        clear ha hsa
        generalize l[p] = y at *
        obtain ⟨y1, y2, y3, y4, y5⟩ := y
        obtain ⟨cv, hcv⟩ : ∃ cv, cmpA (y1, y2, y3, y4, y5) (x1, x2, x3, x4, x5) = cv := ⟨_, rfl⟩
        rw [hcv] at HFm HCm
        clear hcv
        unfold encA at HCm
        simp only at c0 c1 c2 c3 c4 HCm
        have hp1 : (p : Int) < (l.length : Int) := by omega
        have hp2 : (0 : Int) ≤ (p : Int) := by omega
        go_upto_region 8 with (fail)
        have hX_l := hX.lt; have hX_0 := hX.cell 0; have hX_1 := hX.cell 1; have hX_2 := hX.cell 2; have hX_3 := hX.cell 3; have hX_4 := hX.cell 4; simp at hX_0 hX_1 hX_2 hX_3 hX_4
        refine wp_region_held_drew (S := (fun wx => (wx.cell? ⟨w.heap.size, 0, none⟩ = some (.string x1) ∧ wx.cell? ⟨w.heap.size, 1, none⟩ = some (.int .i64 x2) ∧ wx.cell? ⟨w.heap.size, 2, none⟩ = some (.int .i64 x3) ∧ wx.cell? ⟨w.heap.size, 3, none⟩ = some (.string x4) ∧ wx.cell? ⟨w.heap.size, 4, none⟩ = some (.string x5) ∧ wx.cell? ⟨b, off + p * 5, none⟩ = some (.string y1) ∧ wx.cell? ⟨b, off + p * 5 + 1, none⟩ = some (.int .i64 y2) ∧ wx.cell? ⟨b, off + p * 5 + 2, none⟩ = some (.int .i64 y3) ∧ wx.cell? ⟨b, off + p * 5 + 3, none⟩ = some (.string y4) ∧ wx.cell? ⟨b, off + p * 5 + 4, none⟩ = some (.string y5)) ∧ Grw wr wx)) (by kernel_rfl) ?hS (fun hHeld => ?_)
        case hS => exact ⟨⟨hX_0, hX_1, hX_2, hX_3, hX_4, c0, c1, c2, c3, c4⟩, (Grw.refl _).drew⟩
        refine rtake (i := 0) (d := (some 35)) (v := ?_) rfl (by kernel_rfl) (by kernel_rfl) (by kernel_rfl) (by kernel_rfl) (fun _ _ _ h => h) (by kernel_rfl) (by assumption) ?_ ?_
        rotate_left 1
        · (intro wI hSI; (try dsimp only at hSI); go_simp; (try with_reducible rfl))
        simp only [Act.put, List.setIfInBounds_toArray, List.set_cons_zero, List.set_cons_succ]
        refine rtake (i := 1) (d := (some 36)) (v := ?_) rfl (by kernel_rfl) (by kernel_rfl) (by kernel_rfl) (by kernel_rfl) (fun _ _ _ h => h) (by kernel_rfl) (by assumption) ?_ ?_
        rotate_left 1
        · (intro wI hSI; (try dsimp only at hSI); go_simp; (try with_reducible rfl))
        simp only [Act.put, List.setIfInBounds_toArray, List.set_cons_zero, List.set_cons_succ]
        refine rtake (i := 2) (d := (some 37)) (v := ?_) rfl (by kernel_rfl) (by kernel_rfl) (by kernel_rfl) (by kernel_rfl) (fun _ _ _ h => h) (by kernel_rfl) (by assumption) ?_ ?_
        rotate_left 1
        · (intro wI hSI; (try dsimp only at hSI); go_simp; (try with_reducible rfl))
        simp only [Act.put, List.setIfInBounds_toArray, List.set_cons_zero, List.set_cons_succ]
        refine rtake (i := 3) (d := (some 38)) (v := ?_) rfl (by kernel_rfl) (by kernel_rfl) (by kernel_rfl) (by kernel_rfl) (fun _ _ _ h => h) (by kernel_rfl) (by assumption) ?_ ?_
        rotate_left 1
        · (intro wI hSI; (try dsimp only at hSI); go_simp; (try with_reducible rfl))
        simp only [Act.put, List.setIfInBounds_toArray, List.set_cons_zero, List.set_cons_succ]
        refine rtake (i := 4) (d := (some 39)) (v := ?_) rfl (by kernel_rfl) (by kernel_rfl) (by kernel_rfl) (by kernel_rfl) (fun _ _ _ h => h) (by kernel_rfl) (by assumption) ?_ ?_
        rotate_left 1
        · (intro wI hSI; (try dsimp only at hSI); go_simp; (try with_reducible rfl))
        simp only [Act.put, List.setIfInBounds_toArray, List.set_cons_zero, List.set_cons_succ]
        refine rtake (i := 5) (d := (some 40)) (v := ?_) rfl (by kernel_rfl) (by kernel_rfl) (by kernel_rfl) (by kernel_rfl) (fun _ _ _ h => h) (by kernel_rfl) (by assumption) ?_ ?_
        rotate_left 1
        · (intro wI hSI; (try dsimp only at hSI); go_simp; (try with_reducible rfl))
        simp only [Act.put, List.setIfInBounds_toArray, List.set_cons_zero, List.set_cons_succ]
        refine rtake (i := 6) (d := (some 41)) (v := ?_) rfl (by kernel_rfl) (by kernel_rfl) (by kernel_rfl) (by kernel_rfl) (fun _ _ _ h => h) (by kernel_rfl) (by assumption) ?_ ?_
        rotate_left 1
        · (intro wI hSI; (try dsimp only at hSI); go_simp; (try with_reducible rfl))
        simp only [Act.put, List.setIfInBounds_toArray, List.set_cons_zero, List.set_cons_succ]
        refine rtake (i := 7) (d := (some 42)) (v := ?_) rfl (by kernel_rfl) (by kernel_rfl) (by kernel_rfl) (by kernel_rfl) (fun _ _ _ h => h) (by kernel_rfl) (by assumption) ?_ ?_
        rotate_left 1
        · (intro wI hSI; (try dsimp only at hSI); go_simp; (try with_reducible rfl))
        simp only [Act.put, List.setIfInBounds_toArray, List.set_cons_zero, List.set_cons_succ]
        refine rtake (i := 8) (d := (some 43)) (v := ?_) rfl (by kernel_rfl) (by kernel_rfl) (by kernel_rfl) (by kernel_rfl) (fun _ _ _ h => h) (by kernel_rfl) (by assumption) ?_ ?_
        rotate_left 1
        · (intro wI hSI; (try dsimp only at hSI); go_simp; (try with_reducible rfl))
        simp only [Act.put, List.setIfInBounds_toArray, List.set_cons_zero, List.set_cons_succ]
        refine rtake (i := 9) (d := (some 44)) (v := ?_) rfl (by kernel_rfl) (by kernel_rfl) (by kernel_rfl) (by kernel_rfl) (fun _ _ _ h => h) (by kernel_rfl) (by assumption) ?_ ?_
        rotate_left 1
        · (intro wI hSI; (try dsimp only at hSI); go_simp; (try with_reducible rfl))
        simp only [Act.put, List.setIfInBounds_toArray, List.set_cons_zero, List.set_cons_succ]
        refine rtake (i := 10) (d := (some 45)) (v := ?_) rfl (by kernel_rfl) (by kernel_rfl) (by kernel_rfl) (by kernel_rfl) (fun _ _ _ h => h) (by kernel_rfl) (by assumption) ?_ ?_
        rotate_left 1
        · (intro wI hSI; (try dsimp only at hSI); go_simp; (try with_reducible rfl))
        simp only [Act.put, List.setIfInBounds_toArray, List.set_cons_zero, List.set_cons_succ]
        refine rcall (i := 11) (d := (some 46)) (by kernel_rfl) rfl (by kernel_rfl) (fun K hK => ?_)
        rw [if_pos (by kernel_rfl)]; go_simp; go_at_fn g; refine (HCm.out _).mono ?_; rintro e w2 ⟨rfl, hg2⟩
        refine hK.out _ _ ?hS (fun hHeld => ?_)
        case hS => exact cells10 hHeld hg2
        clear hK K
        simp only [Act.put, List.setIfInBounds_toArray, List.set_cons_zero, List.set_cons_succ]
        refine rtake (i := 12) (d := (some 47)) (v := ?_) rfl (by kernel_rfl) (by kernel_rfl) (by kernel_rfl) (by kernel_rfl) (fun _ _ _ h => h) (by kernel_rfl) (by assumption) ?_ ?_
        rotate_left 1
        · (intro wI hSI; (try dsimp only at hSI); go_simp; (try with_reducible rfl))
        simp only [Act.put, List.setIfInBounds_toArray, List.set_cons_zero, List.set_cons_succ]
        refine rtake (i := 13) (d := (some 48)) (v := ?_) rfl (by kernel_rfl) (by kernel_rfl) (by kernel_rfl) (by kernel_rfl) (fun _ _ _ h => h) (by kernel_rfl) (by assumption) ?_ ?_
        rotate_left 1
        · (intro wI hSI; (try dsimp only at hSI); go_simp; (try with_reducible rfl))
        simp only [Act.put, List.setIfInBounds_toArray, List.set_cons_zero, List.set_cons_succ]
        refine rtake (i := 14) (d := (some 6)) (v := ?_) rfl (by kernel_rfl) (by kernel_rfl) (by kernel_rfl) (by kernel_rfl) (fun _ _ _ h => h) (by kernel_rfl) (by assumption) ?_ ?_
        rotate_left 1
        · (intro wI hSI; (try dsimp only at hSI); go_simp; (try with_reducible rfl))
        simp only [Act.put, List.setIfInBounds_toArray, List.set_cons_zero, List.set_cons_succ]
        refine rtake (i := 15) (d := (some 7)) (v := ?_) rfl (by kernel_rfl) (by kernel_rfl) (by kernel_rfl) (by kernel_rfl) (fun _ _ _ h => h) (by kernel_rfl) (by assumption) ?_ ?_
        rotate_left 1
        · (intro wI hSI; (try dsimp only at hSI); go_simp; (try with_reducible rfl))
        simp only [Act.put, List.setIfInBounds_toArray, List.set_cons_zero, List.set_cons_succ]
        refine wpAnyH_done (by kernel_rfl) ?_ _
        have hb2 := below_next hb hHeld.2.1
        have hX2 := HX.out.below hHeld.2.1
        clear hX_l hX_0 hX_1 hX_2 hX_3 hX_4
        clear hHeld c0 c1 c2 c3 c4 hg2 hX
        go_wp2_with fail
        go_ret2
        exact ⟨by rw [← HFm.out] <;> first | rfl | (congr 3; simp), hb2⟩
      · have HFm : Hid (fd = false) := by
          show _ = _
          rw [← HFD.out, decide_eq_false_iff_not, ← HF.out]
          exact fun ⟨h, _⟩ => hpn h
        have hp1 : ¬ ((p : Int) < (l.length : Int)) := by omega
        clear hX hsa
        go_upto_region 8 with (fail)
        refine wp_region_held_drew (S := (fun wx => Grw wr wx)) (by kernel_rfl) ?hS (fun hHeld => ?_)
        case hS => exact (Grw.refl _).drew
        refine rtake (i := 0) (d := (some 35)) (v := ?_) rfl (by kernel_rfl) (by kernel_rfl) (by kernel_rfl) (by kernel_rfl) (fun _ _ _ h => h) (by kernel_rfl) (by assumption) ?_ ?_
        rotate_left 1
        · (intro wI hSI; (try dsimp only at hSI); go_simp; (try with_reducible rfl))
        simp only [Act.put, List.setIfInBounds_toArray, List.set_cons_zero, List.set_cons_succ]
        refine rtake (i := 1) (d := (some 36)) (v := ?_) rfl (by kernel_rfl) (by kernel_rfl) (by kernel_rfl) (by kernel_rfl) (fun _ _ _ h => h) (by kernel_rfl) (by assumption) ?_ ?_
        rotate_left 1
        · (intro wI hSI; (try dsimp only at hSI); go_simp; (try with_reducible rfl))
        simp only [Act.put, List.setIfInBounds_toArray, List.set_cons_zero, List.set_cons_succ]
        refine rtake (i := 2) (d := (some 37)) (v := ?_) rfl (by kernel_rfl) (by kernel_rfl) (by kernel_rfl) (by kernel_rfl) (fun _ _ _ h => h) (by kernel_rfl) (by assumption) ?_ ?_
        rotate_left 1
        · (intro wI hSI; (try dsimp only at hSI); go_simp; (try with_reducible rfl))
        simp only [Act.put, List.setIfInBounds_toArray, List.set_cons_zero, List.set_cons_succ]
        refine rtake (i := 3) (d := (some 38)) (v := ?_) rfl (by kernel_rfl) (by kernel_rfl) (by kernel_rfl) (by kernel_rfl) (fun _ _ _ h => h) (by kernel_rfl) (by assumption) ?_ ?_
        rotate_left 1
        · (intro wI hSI; (try dsimp only at hSI); go_simp; (try with_reducible rfl))
        simp only [Act.put, List.setIfInBounds_toArray, List.set_cons_zero, List.set_cons_succ]
        refine rtake (i := 4) (d := (some 39)) (v := ?_) rfl (by kernel_rfl) (by kernel_rfl) (by kernel_rfl) (by kernel_rfl) (fun _ _ _ h => h) (by kernel_rfl) (by assumption) ?_ ?_
        rotate_left 1
        · (intro wI hSI; (try dsimp only at hSI); go_simp; (try with_reducible rfl))
        simp only [Act.put, List.setIfInBounds_toArray, List.set_cons_zero, List.set_cons_succ]
        refine rskip (i := 5) (d := (some 40)) rfl (by kernel_rfl) (by kernel_rfl) (by kernel_rfl) (by kernel_rfl) (fun _ _ _ h => h) (by kernel_rfl) (by assumption) ?_
        simp only [Act.put, List.setIfInBounds_toArray, List.set_cons_zero, List.set_cons_succ]
        refine rskip (i := 6) (d := (some 41)) rfl (by kernel_rfl) (by kernel_rfl) (by kernel_rfl) (by kernel_rfl) (fun _ _ _ h => h) (by kernel_rfl) (by assumption) ?_
        simp only [Act.put, List.setIfInBounds_toArray, List.set_cons_zero, List.set_cons_succ]
        refine rskip (i := 7) (d := (some 42)) rfl (by kernel_rfl) (by kernel_rfl) (by kernel_rfl) (by kernel_rfl) (fun _ _ _ h => h) (by kernel_rfl) (by assumption) ?_
        simp only [Act.put, List.setIfInBounds_toArray, List.set_cons_zero, List.set_cons_succ]
        refine rskip (i := 8) (d := (some 43)) rfl (by kernel_rfl) (by kernel_rfl) (by kernel_rfl) (by kernel_rfl) (fun _ _ _ h => h) (by kernel_rfl) (by assumption) ?_
        simp only [Act.put, List.setIfInBounds_toArray, List.set_cons_zero, List.set_cons_succ]
        refine rskip (i := 9) (d := (some 44)) rfl (by kernel_rfl) (by kernel_rfl) (by kernel_rfl) (by kernel_rfl) (fun _ _ _ h => h) (by kernel_rfl) (by assumption) ?_
        simp only [Act.put, List.setIfInBounds_toArray, List.set_cons_zero, List.set_cons_succ]
        refine rskip (i := 10) (d := (some 45)) rfl (by kernel_rfl) (by kernel_rfl) (by kernel_rfl) (by kernel_rfl) (fun _ _ _ h => h) (by kernel_rfl) (by assumption) ?_
        simp only [Act.put, List.setIfInBounds_toArray, List.set_cons_zero, List.set_cons_succ]
        refine rcall (i := 11) (d := (some 46)) (by kernel_rfl) rfl (by kernel_rfl) (fun K hK => ?_)
        rw [if_neg (by rw [show Region.wanted _ _ = false by kernel_rfl]; decide)]
        refine hK.out _ _ ?hS (fun hHeld => ?_)
        case hS => exact hHeld
        clear hK K
        simp only [Act.put, List.setIfInBounds_toArray, List.set_cons_zero, List.set_cons_succ]
        refine rskip (i := 12) (d := (some 47)) rfl (by kernel_rfl) (by kernel_rfl) (by kernel_rfl) (by kernel_rfl) (fun _ _ _ h => h) (by kernel_rfl) (by assumption) ?_
        simp only [Act.put, List.setIfInBounds_toArray, List.set_cons_zero, List.set_cons_succ]
        refine rtake (i := 13) (d := (some 48)) (v := ?_) rfl (by kernel_rfl) (by kernel_rfl) (by kernel_rfl) (by kernel_rfl) (fun _ _ _ h => h) (by kernel_rfl) (by assumption) ?_ ?_
        rotate_left 1
        · (intro wI hSI; (try dsimp only at hSI); go_simp; (try with_reducible rfl))
        simp only [Act.put, List.setIfInBounds_toArray, List.set_cons_zero, List.set_cons_succ]
        refine rtake (i := 14) (d := (some 6)) (v := ?_) rfl (by kernel_rfl) (by kernel_rfl) (by kernel_rfl) (by kernel_rfl) (fun _ _ _ h => h) (by kernel_rfl) (by assumption) ?_ ?_
        rotate_left 1
        · (intro wI hSI; (try dsimp only at hSI); go_simp; (try with_reducible rfl))
        simp only [Act.put, List.setIfInBounds_toArray, List.set_cons_zero, List.set_cons_succ]
        refine rtake (i := 15) (d := (some 7)) (v := ?_) rfl (by kernel_rfl) (by kernel_rfl) (by kernel_rfl) (by kernel_rfl) (fun _ _ _ h => h) (by kernel_rfl) (by assumption) ?_ ?_
        rotate_left 1
        · (intro wI hSI; (try dsimp only at hSI); go_simp; (try with_reducible rfl))
        simp only [Act.put, List.setIfInBounds_toArray, List.set_cons_zero, List.set_cons_succ]
        refine wpAnyH_done (by kernel_rfl) ?_ _
        have hb2 := below_next hb hHeld.1
        go_wp2_with fail
        go_ret2
        exact ⟨by rw [HFm.out] <;> rfl, hb2⟩
end Go.Proofs.YtifflpilnpcmoaaGreatDoor

/-! slices.Index and slices.Contains of []api.Arrival; the reference's order of a box. -/
namespace Go.Proofs.YtifflpilnpcmoaaGreatDoor
open Go.RowKit
set_option linter.unusedVariables false
set_option linter.unusedSimpArgs false

theorem guardEq_Arr (p q : Operand) (x2 y2 x3 y3 : Int) (x1 y1 x4 y4 x5 y5 : ByteArray) (w : World) : (eqGuard .eql 63 p q (.agg #[.string x1, .int .i64 x2, .int .i64 x3, .string x4, .string x5]) (.agg #[.string y1, .int .i64 y2, .int .i64 y3, .string y4, .string y5])).run Tryz.prog w = .ok () w := by
  go_simp
set_option maxRecDepth 100000 in
set_option maxHeartbeats 4000000 in
theorem indexArr_any (l : List Arv) (a : Option Addr) (cap : Nat) (x : Arv) (w : World) (h : SA w a l) (hlen : l.length ≤ 1000000) :
    Calls Tryz.prog 91 #[.slice a l.length cap, encA x] w (fun e w' => ∃ r : Int, e = .returned (.int .i64 r) ∧ decide (0 ≤ r) = decide (x ∈ l) ∧ Below w.heap.size w w') := by
  have HM : Hid (∀ k (hk : k < l.length), l[k] = x → decide (x ∈ l) = true) := fun k hk e => decide_eq_true (by rw [← e]; exact List.getElem_mem hk)
  have HN : Hid ((∀ y ∈ l.take l.length, y ≠ x) → decide (x ∈ l) = false) := fun h => decide_eq_false (fun hx => h x (by rw [List.take_length]; exact hx) rfl)
  generalize decide (x ∈ l) = fd at *
  have Hx : Hid (∃ x', x' = x) := ⟨_, rfl⟩
  obtain ⟨x1, x2, x3, x4, x5⟩ := x
  unfold encA
  have hX := Box.new w 63 #[.string x1, .int .i64 x2, .int .i64 x3, .string x4, .string x5]
  have hsa0 := h.alloc (.cells #[.string x1, .int .i64 x2, .int .i64 x3, .string x4, .string x5] 63)
  have hb0 : Below w.heap.size w (w.alloc (.cells #[.string x1, .int .i64 x2, .int .i64 x3, .string x4, .string x5] 63)) := (Below.refl _ _).alloc (Nat.le_refl _) _
  go_enter Tryz.func91, Tryz.ntmps91
  go_wp2_with fail
  go_loopg [8] l.length (fun gk i wr => ∃ k : Nat, i = .int .i64 k ∧ k ≤ l.length ∧ Hid (gk = l.length - k) ∧ Hid (∀ y ∈ l.take k, y ≠ (x1, x2, x3, x4, x5)) ∧ Box wr w.heap.size 63 #[.string x1, .int .i64 x2, .int .i64 x3, .string x4, .string x5] ∧ SA wr a l ∧ Below w.heap.size w wr)
  case atStart => exact ⟨0, rfl, by omega, rfl, fun y hy => (by cases hy), hX, hsa0, hb0⟩
  case round =>
    clear hX hsa0 hb0 h
    obtain ⟨k, rfl, hk, hgk, hf, hX, hsa, hb⟩ := hrel
    by_cases hlt : k < l.length
    · obtain ⟨b, off, ha, c0, c1, c2, c3, c4⟩ := hsa.arv hlt
      have HMk := Lib.hid (HM.out k hlt)
      have Htk := Lib.hid (List.take_succ_eq_append_getElem hlt)
      have Ha := Lib.hid ha
      rw [ha]
      clear ha
      generalize l[k] = y at *
      obtain ⟨y1, y2, y3, y4, y5⟩ := y
      simp only at c0 c1 c2 c3 c4
      have hqr := fun w => run_eqArr x2 y2 x3 y3 x1 y1 x4 y4 x5 y5 w
      have hqg := fun p q w => guardEq_Arr p q x2 y2 x3 y3 x1 y1 x4 y4 x5 y5 w
      obtain ⟨dq, hdq⟩ : ∃ dq, decide ((x1, x2, x3, x4, x5) = (y1, y2, y3, y4, y5)) = dq := ⟨_, rfl⟩
      rw [hdq] at hqr
      have Hdq := Lib.hid hdq
      clear hdq
      have hk1 : (0 : Int) ≤ (k : Int) := by omega
      have hk2 : (k : Int) < (l.length : Int) := by omega
      have HX := Lib.hid hX
      have Hsa := Lib.hid hsa
      go_upto_region 4 with (fail)
      have hX_l := hX.lt; have hX_0 := hX.cell 0; have hX_1 := hX.cell 1; have hX_2 := hX.cell 2; have hX_3 := hX.cell 3; have hX_4 := hX.cell 4; simp at hX_0 hX_1 hX_2 hX_3 hX_4
      refine wp_region_held_drew (S := (fun wx => (wx.cell? ⟨w.heap.size, 0, none⟩ = some (.string x1) ∧ wx.cell? ⟨w.heap.size, 1, none⟩ = some (.int .i64 x2) ∧ wx.cell? ⟨w.heap.size, 2, none⟩ = some (.int .i64 x3) ∧ wx.cell? ⟨w.heap.size, 3, none⟩ = some (.string x4) ∧ wx.cell? ⟨w.heap.size, 4, none⟩ = some (.string x5) ∧ wx.cell? ⟨b, off + k * 5, none⟩ = some (.string y1) ∧ wx.cell? ⟨b, off + k * 5 + 1, none⟩ = some (.int .i64 y2) ∧ wx.cell? ⟨b, off + k * 5 + 2, none⟩ = some (.int .i64 y3) ∧ wx.cell? ⟨b, off + k * 5 + 3, none⟩ = some (.string y4) ∧ wx.cell? ⟨b, off + k * 5 + 4, none⟩ = some (.string y5)) ∧ Below wr.heap.size wr wx)) (by kernel_rfl) ?hS (fun hHeld => ?_)
      case hS => exact ⟨⟨hX_0, hX_1, hX_2, hX_3, hX_4, c0, c1, c2, c3, c4⟩, (Below.refl _ _).drew⟩
      refine rtake (i := 0) (d := (some 11)) (v := ?_) rfl (by kernel_rfl) (by kernel_rfl) (by kernel_rfl) (by kernel_rfl) (fun _ _ _ h => h) (by kernel_rfl) (by assumption) ?_ ?_
      rotate_left 1
      · (intro wI hSI; (try dsimp only at hSI); go_simp; (try with_reducible rfl))
      simp only [Act.put, List.setIfInBounds_toArray, List.set_cons_zero, List.set_cons_succ]
      refine rtake (i := 1) (d := (some 12)) (v := ?_) rfl (by kernel_rfl) (by kernel_rfl) (by kernel_rfl) (by kernel_rfl) (fun _ _ _ h => h) (by kernel_rfl) (by assumption) ?_ ?_
      rotate_left 1
      · (intro wI hSI; (try dsimp only at hSI); go_simp; (try with_reducible rfl))
      simp only [Act.put, List.setIfInBounds_toArray, List.set_cons_zero, List.set_cons_succ]
      refine rtake (i := 2) (d := (some 13)) (v := ?_) rfl (by kernel_rfl) (by kernel_rfl) (by kernel_rfl) (by kernel_rfl) (fun _ _ _ h => h) (by kernel_rfl) (by assumption) ?_ ?_
      rotate_left 1
      · (intro wI hSI; (try dsimp only at hSI); go_simp; (try with_reducible rfl))
      simp only [Act.put, List.setIfInBounds_toArray, List.set_cons_zero, List.set_cons_succ]
      refine rtake (i := 3) (d := (some 14)) (v := ?_) rfl (by kernel_rfl) (by kernel_rfl) (by kernel_rfl) (by kernel_rfl) (fun _ _ _ h => h) (by kernel_rfl) (by assumption) ?_ ?_
      rotate_left 1
      · (intro wI hSI; (try dsimp only at hSI); go_simp; (try with_reducible rfl))
      simp only [Act.put, List.setIfInBounds_toArray, List.set_cons_zero, List.set_cons_succ]
      refine rtake (i := 4) (d := (some 15)) (v := ?_) rfl (by kernel_rfl) (by kernel_rfl) (by kernel_rfl) (by kernel_rfl) (fun _ _ _ h => h) (by kernel_rfl) (by assumption) ?_ ?_
      rotate_left 1
      · (intro wI hSI; (try dsimp only at hSI); go_simp; (try with_reducible rfl))
      simp only [Act.put, List.setIfInBounds_toArray, List.set_cons_zero, List.set_cons_succ]
      refine rtake (i := 5) (d := (some 16)) (v := ?_) rfl (by kernel_rfl) (by kernel_rfl) (by kernel_rfl) (by kernel_rfl) (fun _ _ _ h => h) (by kernel_rfl) (by assumption) ?_ ?_
      rotate_left 1
      · (intro wI hSI; (try dsimp only at hSI); go_simp; (try with_reducible rfl))
      simp only [Act.put, List.setIfInBounds_toArray, List.set_cons_zero, List.set_cons_succ]
      refine wpAnyH_done (by kernel_rfl) ?_ _
      have hb2 := hHeld.2
      clear hX_l hX_0 hX_1 hX_2 hX_3 hX_4
      clear hHeld c0 c1 c2 c3 c4 hqr hqg hX hsa
      cases dq
      · have Hny : Hid ((y1, y2, y3, y4, y5) ≠ (x1, x2, x3, x4, x5)) := fun e => (of_decide_eq_false Hdq.out) e.symm
        go_wp2_with fail
        rw [← Ha.out]
        go_roundg (l.length - (k + 1))
        case measure => have := hgk.out; omega
        case rel => exact ⟨k + 1, by go_num, by omega, rfl, by rw [Htk.out]; exact fun z hz => (List.mem_append.1 hz).elim (hf.out z) (fun h => by rw [List.mem_singleton.1 h]; exact Hny.out), HX.out.below (Below.refl _ _).drew, Hsa.out.below (Below.refl _ _).drew, below_next hb (Below.refl _ _).drew⟩
      · have Hyes := Lib.hid (HMk.out (of_decide_eq_true Hdq.out).symm)
        go_wp2_with fail
        go_ret
        exact ⟨_, rfl, by rw [Hyes.out]; exact decide_eq_true hk1, below_next hb (Below.refl _ _).drew⟩
    · obtain rfl : k = l.length := by omega
      have Hno := Lib.hid (HN.out hf.out)
      clear hX hsa
      go_wp2_with fail
      go_ret
      exact ⟨_, rfl, by rw [Hno.out]; rfl, hb⟩
set_option maxRecDepth 100000 in
set_option maxHeartbeats 4000000 in
theorem containsArr_any (l : List Arv) (a : Option Addr) (cap : Nat) (x : Arv) (w : World) (h : SA w a l) (hlen : l.length ≤ 1000000) :
    Calls Tryz.prog 61 #[.slice a l.length cap, encA x] w (Gives (.bool (decide (x ∈ l))) w) := by
  have HI := Lib.hid (fun W (h : SA W a l) => indexArr_any l a cap x W h hlen)
  generalize decide (x ∈ l) = fd at *
  obtain ⟨x1, x2, x3, x4, x5⟩ := x
  unfold encA at *
  have hsa0 := h.alloc (.cells #[.string x1, .int .i64 x2, .int .i64 x3, .string x4, .string x5] 63)
  have hb0 : Below w.heap.size w (w.alloc (.cells #[.string x1, .int .i64 x2, .int .i64 x3, .string x4, .string x5] 63)) := (Below.refl _ _).alloc (Nat.le_refl _) _
  go_enter Tryz.func61, Tryz.ntmps61
  go_wp2_with fail
  refine (HI.out _ hsa0).mono ?_
  rintro e w1 ⟨r, rfl, hr, hb1⟩
  have hb2 := below_next hb0 hb1
  clear hsa0 hb0 hb1 h
  go_wp2_with fail
  go_ret
  exact ⟨by rw [← hr] <;> rfl, hb2⟩
set_option maxRecDepth 100000 in
set_option maxHeartbeats 4000000 in
theorem boxOrder_any (x y : Arv) (w : World) : Calls Tryz.prog 62 #[encA x, encA y] w (fun e w' => e = .returned (.int .i64 (cmpA x y)) ∧ Grw w w') := by
  have HO := Lib.hid (fun W => orderA_any x y W)
  have HC := Lib.hid (boxOrder_same x y)
  have HI1 : Hid (∀ W', Calls Tryz.prog 78 #[.string x.1, .string y.1] W' (fun e w' => e = .returned (.int .i64 (cmpS x.1 y.1)) ∧ w' = W')) := fun W' => Tryz.strings_Compare x.1 y.1 W'
  generalize cmpA x y = z at *
  generalize cmpO x y = co at *
  obtain ⟨x1, x2, x3, x4, x5⟩ := x
  obtain ⟨y1, y2, y3, y4, y5⟩ := y
  simp only at HC HI1
  generalize cmpS x1 y1 = c1 at *
  unfold encA at *
  have hX := (Box.new w 63 #[.string x1, .int .i64 x2, .int .i64 x3, .string x4, .string x5]).alloc (.cells #[.string y1, .int .i64 y2, .int .i64 y3, .string y4, .string y5] 63)
  have hY := Box.newAt (w.alloc (.cells #[.string x1, .int .i64 x2, .int .i64 x3, .string x4, .string x5] 63)) (w.heap.size + 1) 63 #[.string y1, .int .i64 y2, .int .i64 y3, .string y4, .string y5] (by simp)
  go_enter Tryz.func62, Tryz.ntmps62
  go_upto_region 1 with (fail)
  have hG : Grw w ((w.alloc (.cells #[.string x1, .int .i64 x2, .int .i64 x3, .string x4, .string x5] 63)).alloc (.cells #[.string y1, .int .i64 y2, .int .i64 y3, .string y4, .string y5] 63)) := ((Grw.refl _).alloc _).alloc _
  generalize (w.alloc (.cells #[.string x1, .int .i64 x2, .int .i64 x3, .string x4, .string x5] 63)).alloc (.cells #[.string y1, .int .i64 y2, .int .i64 y3, .string y4, .string y5] 63) = W at *
  have hX_l := hX.lt; have hX_0 := hX.cell 0; have hX_1 := hX.cell 1; have hX_2 := hX.cell 2; have hX_3 := hX.cell 3; have hX_4 := hX.cell 4; simp at hX_0 hX_1 hX_2 hX_3 hX_4
  have hY_l := hY.lt; have hY_0 := hY.cell 0; have hY_1 := hY.cell 1; have hY_2 := hY.cell 2; have hY_3 := hY.cell 3; have hY_4 := hY.cell 4; simp at hY_0 hY_1 hY_2 hY_3 hY_4
  refine wp_region_held_drew (S := (fun wx => (wx.cell? ⟨w.heap.size, 0, none⟩ = some (.string x1) ∧ wx.cell? ⟨w.heap.size, 1, none⟩ = some (.int .i64 x2) ∧ wx.cell? ⟨w.heap.size, 2, none⟩ = some (.int .i64 x3) ∧ wx.cell? ⟨w.heap.size, 3, none⟩ = some (.string x4) ∧ wx.cell? ⟨w.heap.size, 4, none⟩ = some (.string x5) ∧ wx.cell? ⟨w.heap.size + 1, 0, none⟩ = some (.string y1) ∧ wx.cell? ⟨w.heap.size + 1, 1, none⟩ = some (.int .i64 y2) ∧ wx.cell? ⟨w.heap.size + 1, 2, none⟩ = some (.int .i64 y3) ∧ wx.cell? ⟨w.heap.size + 1, 3, none⟩ = some (.string y4) ∧ wx.cell? ⟨w.heap.size + 1, 4, none⟩ = some (.string y5)) ∧ Grw W wx)) (by kernel_rfl) ?hS (fun hHeld => ?_)
  case hS => exact ⟨⟨hX_0, hX_1, hX_2, hX_3, hX_4, hY_0, hY_1, hY_2, hY_3, hY_4⟩, (Grw.refl _).drew⟩
  refine rtake (i := 0) (d := (some 5)) (v := ?_) rfl (by kernel_rfl) (by kernel_rfl) (by kernel_rfl) (by kernel_rfl) (fun _ _ _ h => h) (by kernel_rfl) (by assumption) ?_ ?_
  rotate_left 1
  · (intro wI hSI; (try dsimp only at hSI); go_simp; (try with_reducible rfl))
  simp only [Act.put, List.setIfInBounds_toArray, List.set_cons_zero, List.set_cons_succ]
  refine rtake (i := 1) (d := (some 6)) (v := ?_) rfl (by kernel_rfl) (by kernel_rfl) (by kernel_rfl) (by kernel_rfl) (fun _ _ _ h => h) (by kernel_rfl) (by assumption) ?_ ?_
  rotate_left 1
  · (intro wI hSI; (try dsimp only at hSI); go_simp; (try with_reducible rfl))
  simp only [Act.put, List.setIfInBounds_toArray, List.set_cons_zero, List.set_cons_succ]
  refine rtake (i := 2) (d := (some 7)) (v := ?_) rfl (by kernel_rfl) (by kernel_rfl) (by kernel_rfl) (by kernel_rfl) (fun _ _ _ h => h) (by kernel_rfl) (by assumption) ?_ ?_
  rotate_left 1
  · (intro wI hSI; (try dsimp only at hSI); go_simp; (try with_reducible rfl))
  simp only [Act.put, List.setIfInBounds_toArray, List.set_cons_zero, List.set_cons_succ]
  refine rtake (i := 3) (d := (some 8)) (v := ?_) rfl (by kernel_rfl) (by kernel_rfl) (by kernel_rfl) (by kernel_rfl) (fun _ _ _ h => h) (by kernel_rfl) (by assumption) ?_ ?_
  rotate_left 1
  · (intro wI hSI; (try dsimp only at hSI); go_simp; (try with_reducible rfl))
  simp only [Act.put, List.setIfInBounds_toArray, List.set_cons_zero, List.set_cons_succ]
  refine rtake (i := 5) (d := (some 10)) (v := ?_) rfl (by kernel_rfl) (by kernel_rfl) (by kernel_rfl) (by kernel_rfl) (fun _ _ _ h => h) (by kernel_rfl) (by assumption) ?_ ?_
  rotate_left 1
  · (intro wI hSI; (try dsimp only at hSI); go_simp; (try with_reducible rfl))
  simp only [Act.put, List.setIfInBounds_toArray, List.set_cons_zero, List.set_cons_succ]
  refine rtake (i := 6) (d := (some 11)) (v := ?_) rfl (by kernel_rfl) (by kernel_rfl) (by kernel_rfl) (by kernel_rfl) (fun _ _ _ h => h) (by kernel_rfl) (by assumption) ?_ ?_
  rotate_left 1
  · (intro wI hSI; (try dsimp only at hSI); go_simp; (try with_reducible rfl))
  simp only [Act.put, List.setIfInBounds_toArray, List.set_cons_zero, List.set_cons_succ]
  refine rcall (i := 4) (d := (some 9)) (by kernel_rfl) rfl (by kernel_rfl) (fun K hK => ?_)
  go_simp
  go_at_call 78; refine (HI1.out _).mono ?_; rintro e w' ⟨rfl, rfl⟩
  refine hK.out _ _ ?hS (fun hHeld => ?_)
  case hS => exact hHeld
  clear hK K
  simp only [Act.put, List.setIfInBounds_toArray, List.set_cons_zero, List.set_cons_succ]
  refine rcall (i := 7) (d := (some 12)) (by kernel_rfl) rfl (by kernel_rfl) (fun K hK => ?_)
  go_simp
  go_at_call 48; refine (HO.out _).mono ?_; rintro e w2 ⟨rfl, hg2⟩
  refine hK.out _ _ ?hS (fun hHeld => ?_)
  case hS => exact cells10 hHeld hg2
  clear hK K
  simp only [Act.put, List.setIfInBounds_toArray, List.set_cons_zero, List.set_cons_succ]
  refine rcall (i := 8) (d := (some 13)) (by kernel_rfl) rfl (by kernel_rfl) (fun K hK => ?_)
  go_simp
  skip
  refine hK.out _ _ ?hS (fun hHeld => ?_)
  case hS => exact cells10 hHeld ((Grw.refl _).alloc _)
  clear hK K
  simp only [Act.put, List.setIfInBounds_toArray, List.set_cons_zero, List.set_cons_succ]
  refine rcall (i := 9) (d := (some 14)) (by kernel_rfl) rfl (by kernel_rfl) (fun K hK => ?_)
  go_simp
  go_at_call 76; refine (orI_any [c1, co] _ 2 _ (Box.sa (by first | exact Box.new _ _ _ | exact (Box.new _ _ _).drew) [c1, co] rfl) (by simp)).mono ?_; rintro e w' ⟨rfl, rfl⟩
  refine hK.out _ _ ?hS (fun hHeld => ?_)
  case hS => exact hHeld
  clear hK K
  simp only [Act.put, List.setIfInBounds_toArray, List.set_cons_zero, List.set_cons_succ]
  refine rtake (i := 10) (d := (some 4)) (v := ?_) rfl (by kernel_rfl) (by kernel_rfl) (by kernel_rfl) (by kernel_rfl) (fun _ _ _ h => h) (by kernel_rfl) (by assumption) ?_ ?_
  rotate_left 1
  · (intro wI hSI; (try dsimp only at hSI); go_simp; (try with_reducible rfl))
  simp only [Act.put, List.setIfInBounds_toArray, List.set_cons_zero, List.set_cons_succ]
  refine wpAnyH_done (by kernel_rfl) ?_ _
  have hbF := hG.trans hHeld.2
  go_wp2_with fail
  go_ret
  exact ⟨by rw [← HC.out] <;> rfl, hbF⟩
end Go.Proofs.YtifflpilnpcmoaaGreatDoor

/-! The program's Box: Put. -/
namespace Go.Proofs.YtifflpilnpcmoaaGreatDoor
open Go.RowKit
set_option linter.unusedVariables false
set_option linter.unusedSimpArgs false

set_option maxRecDepth 100000 in
set_option maxHeartbeats 8000000 in
theorem putP_any {base b : Nat} {o a f : Int} {a3 : Option Addr} {s3 c3 : Nat} {v : Value} {l : List Arv} (x : Arv) (w : World) (h : BoxAt 97 base b o a f a3 s3 c3 v l w) (hE : Env w) (hx : ArvOk x) (hr : RiseA l) (hl : l.length ≤ 1000) (hbase : base ≤ w.heap.size) :
    Calls Tryz.prog 30 #[.pointer (some ⟨b, 0, none⟩), encA x] w (fun e w' => ∃ v', e = .returned (.tuple #[.bool (putB l x), .int .i64 (aF x)]) ∧ BoxAt 97 base b o a f a3 s3 c3 v' (putL l x) w' ∧ Moves b v v' w w') := by
  obtain ⟨hB, hO, hbb⟩ := h
  obtain ⟨hx1, hx2, hx3, -⟩ := hx
  have HA := Lib.hid (fun W (hE : Env W) => checkArrival_any x.1 x.2.1 x.2.2.1 x.2.2.2.1 x.2.2.2.2 W hE (by omega) (by omega) (by omega))
  have Hol := Lib.hid hO.lt
  obtain ⟨la, cap, rfl, hsa, -, hcap⟩ := hO.form
  have HS := Lib.hid (fun W (h : SA W la l) => searchArr_any l la cap 59 x W (enters_of Tryz.func59 (by kernel_rfl) rfl) (fun x y W => compareA_any x y W) h hr (by omega))
  have HI := Lib.hid (fun W vb (h : Own base 63 W (.slice la l.length cap) l) (hvb : Box W vb 63 (Cel.cells x).toArray) hlt hW => insertArr_any base l _ W h (posA l x) (posA_le l x) x vb hvb hlt hW (by omega))
  have HN := Lib.hid (fun (h0 : aF x = 0) (h : x ∉ l) => putL_new h0 h)
  have HM := Lib.hid (fun (h : x ∈ l) => putL_in h)
  have HF := Lib.hid (fun (h0 : aF x ≠ 0) => putL_bad (l := l) h0)
  have Haf : Hid (aF x = arrivalFault x.1 x.2.1 x.2.2.1 x.2.2.2.1 x.2.2.2.2) := rfl
  rw [Haf.out] at HN HF ⊢
  have HIN : Hid (l.take (posA l x) ++ x :: l.drop (posA l x) = insA l x) := rfl
  have Hple := Lib.hid (posA_le l x)
  generalize hpl : putL l x = pl at *
  generalize hpb : putB l x = pb at *
  generalize insA l x = il at *
  generalize posA l x = p at *
  generalize arrivalFault x.1 x.2.1 x.2.2.1 x.2.2.2.1 x.2.2.2.2 = af at *
  obtain ⟨fd, hfd⟩ : ∃ fd, decide (x ∈ l) = fd := ⟨_, rfl⟩
  rw [hfd] at HS
  have Hfd := Lib.hid hfd
  clear hfd hpl hpb Haf hx1 hx2 hx3 hr
  obtain ⟨x1, x2, x3, x4, x5⟩ := x
  unfold encA at *
  unfold arrAgg at *
  simp only at HA
  have hX := Box.new w 63 #[.string x1, .int .i64 x2, .int .i64 x3, .string x4, .string x5]
  have hb0 : Below w.heap.size w (w.alloc (.cells #[.string x1, .int .i64 x2, .int .i64 x3, .string x4, .string x5] 63)) := (Below.refl _ _).alloc (Nat.le_refl _) _
  go_enter Tryz.func30, Tryz.ntmps30
  go_wp2_with fail
  refine (HA.out _ (hE.alloc _)).mono ?_
  rintro e w1 ⟨rfl, hb1⟩
  have hbw := below_next hb0 hb1
  have hX1 := hX.below hb1
  have hB1 := hB.below hbw
  have hO1 := hO.below hbw
  have hsa1 := hsa.below hbw
  have hxs : w.heap.size < w1.heap.size := hX1.lt
  clear hX hb0 hb1 hE HA hsa hB hO
  by_cases haf : af = 0
  · have HN2 := Lib.hid (HN.out haf)
    clear HN HF
    subst haf
    go_upto_region 4 with (fail)
    have hB1_l := hB1.lt; have hB1_0 := hB1.cell 0; have hB1_1 := hB1.cell 1; have hB1_2 := hB1.cell 2; have hB1_3 := hB1.cell 3; have hB1_4 := hB1.cell 4; simp at hB1_0 hB1_1 hB1_2 hB1_3 hB1_4
    have hX1_l := hX1.lt; have hX1_0 := hX1.cell 0; have hX1_1 := hX1.cell 1; have hX1_2 := hX1.cell 2; have hX1_3 := hX1.cell 3; have hX1_4 := hX1.cell 4; simp at hX1_0 hX1_1 hX1_2 hX1_3 hX1_4
    refine wp_region_held_drew (S := (fun wx => wx.cell? ⟨b, 4, none⟩ = some (.slice la l.length cap) ∧ wx.cell? ⟨w.heap.size, 0, none⟩ = some (.string x1) ∧ wx.cell? ⟨w.heap.size, 1, none⟩ = some (.int .i64 x2) ∧ wx.cell? ⟨w.heap.size, 2, none⟩ = some (.int .i64 x3) ∧ wx.cell? ⟨w.heap.size, 3, none⟩ = some (.string x4) ∧ wx.cell? ⟨w.heap.size, 4, none⟩ = some (.string x5) ∧ Below w1.heap.size w1 wx)) (by kernel_rfl) ?hS (fun hHeld => ?_)
    case hS => exact ⟨hB1_4, hX1_0, hX1_1, hX1_2, hX1_3, hX1_4, (Below.refl _ _).drew⟩
    refine rtake (i := 0) (d := (some 15)) (v := ?_) rfl (by kernel_rfl) (by kernel_rfl) (by kernel_rfl) (by kernel_rfl) (fun _ _ _ h => h) (by kernel_rfl) (by assumption) ?_ ?_
    rotate_left 1
    · (intro wI hSI; (try dsimp only at hSI); go_simp; (try with_reducible rfl))
    simp only [Act.put, List.setIfInBounds_toArray, List.set_cons_zero, List.set_cons_succ]
    refine rtake (i := 1) (d := (some 16)) (v := ?_) rfl (by kernel_rfl) (by kernel_rfl) (by kernel_rfl) (by kernel_rfl) (fun _ _ _ h => h) (by kernel_rfl) (by assumption) ?_ ?_
    rotate_left 1
    · (intro wI hSI; (try dsimp only at hSI); go_simp; (try with_reducible rfl))
    simp only [Act.put, List.setIfInBounds_toArray, List.set_cons_zero, List.set_cons_succ]
    refine rtake (i := 2) (d := (some 17)) (v := ?_) rfl (by kernel_rfl) (by kernel_rfl) (by kernel_rfl) (by kernel_rfl) (fun _ _ _ h => h) (by kernel_rfl) (by assumption) ?_ ?_
    rotate_left 1
    · (intro wI hSI; (try dsimp only at hSI); go_simp; (try with_reducible rfl))
    simp only [Act.put, List.setIfInBounds_toArray, List.set_cons_zero, List.set_cons_succ]
    refine rtake (i := 3) (d := (some 18)) (v := ?_) rfl (by kernel_rfl) (by kernel_rfl) (by kernel_rfl) (by kernel_rfl) (fun _ _ _ h => h) (by kernel_rfl) (by assumption) ?_ ?_
    rotate_left 1
    · (intro wI hSI; (try dsimp only at hSI); go_simp; (try with_reducible rfl))
    simp only [Act.put, List.setIfInBounds_toArray, List.set_cons_zero, List.set_cons_succ]
    refine rtake (i := 4) (d := (some 19)) (v := ?_) rfl (by kernel_rfl) (by kernel_rfl) (by kernel_rfl) (by kernel_rfl) (fun _ _ _ h => h) (by kernel_rfl) (by assumption) ?_ ?_
    rotate_left 1
    · (intro wI hSI; (try dsimp only at hSI); go_simp; (try with_reducible rfl))
    simp only [Act.put, List.setIfInBounds_toArray, List.set_cons_zero, List.set_cons_succ]
    refine rcall (i := 5) (d := (some 20)) (by kernel_rfl) rfl (by kernel_rfl) (fun K hK => ?_)
    go_simp
    go_at_call 64; refine (HS.out _ (hsa1.below hHeld.2.2.2.2.2.2)).mono ?_; rintro e w2 ⟨rfl, hb2⟩
    refine hK.out _ _ ?hS (fun hHeld => ?_)
    case hS => exact ⟨cell_later hb2 hHeld.1, cell_later hb2 hHeld.2.1, cell_later hb2 hHeld.2.2.1, cell_later hb2 hHeld.2.2.2.1, cell_later hb2 hHeld.2.2.2.2.1, cell_later hb2 hHeld.2.2.2.2.2.1, below_next hHeld.2.2.2.2.2.2 hb2⟩
    clear hK K
    simp only [Act.put, List.setIfInBounds_toArray, List.set_cons_zero, List.set_cons_succ]
    refine rtake (i := 6) (d := (some 14)) (v := ?_) rfl (by kernel_rfl) (by kernel_rfl) (by kernel_rfl) (by kernel_rfl) (fun _ _ _ h => h) (by kernel_rfl) (by assumption) ?_ ?_
    rotate_left 1
    · (intro wI hSI; (try dsimp only at hSI); go_simp; (try with_reducible rfl))
    simp only [Act.put, List.setIfInBounds_toArray, List.set_cons_zero, List.set_cons_succ]
    refine rtake (i := 7) (d := (some 21)) (v := ?_) rfl (by kernel_rfl) (by kernel_rfl) (by kernel_rfl) (by kernel_rfl) (fun _ _ _ h => h) (by kernel_rfl) (by assumption) ?_ ?_
    rotate_left 1
    · (intro wI hSI; (try dsimp only at hSI); go_simp; (try with_reducible rfl))
    simp only [Act.put, List.setIfInBounds_toArray, List.set_cons_zero, List.set_cons_succ]
    refine rtake (i := 8) (d := (some 22)) (v := ?_) rfl (by kernel_rfl) (by kernel_rfl) (by kernel_rfl) (by kernel_rfl) (fun _ _ _ h => h) (by kernel_rfl) (by assumption) ?_ ?_
    rotate_left 1
    · (intro wI hSI; (try dsimp only at hSI); go_simp; (try with_reducible rfl))
    simp only [Act.put, List.setIfInBounds_toArray, List.set_cons_zero, List.set_cons_succ]
    refine rtake (i := 9) (d := (some 7)) (v := ?_) rfl (by kernel_rfl) (by kernel_rfl) (by kernel_rfl) (by kernel_rfl) (fun _ _ _ h => h) (by kernel_rfl) (by assumption) ?_ ?_
    rotate_left 1
    · (intro wI hSI; (try dsimp only at hSI); go_simp; (try with_reducible rfl))
    simp only [Act.put, List.setIfInBounds_toArray, List.set_cons_zero, List.set_cons_succ]
    refine rtake (i := 10) (d := (some 8)) (v := ?_) rfl (by kernel_rfl) (by kernel_rfl) (by kernel_rfl) (by kernel_rfl) (fun _ _ _ h => h) (by kernel_rfl) (by assumption) ?_ ?_
    rotate_left 1
    · (intro wI hSI; (try dsimp only at hSI); go_simp; (try with_reducible rfl))
    simp only [Act.put, List.setIfInBounds_toArray, List.set_cons_zero, List.set_cons_succ]
    refine wpAnyH_done (by kernel_rfl) ?_ _
    have hb12 := hHeld.2.2.2.2.2.2
    have hbw2 := below_next hbw hb12
    have hB2 := hB1.below hb12
    have hX2 := hX1.below hb12
    have hO2 := hO1.below hb12
    clear hB1_l hB1_0 hB1_1 hB1_2 hB1_3 hB1_4
    clear hX1_l hX1_0 hX1_1 hX1_2 hX1_3 hX1_4
    clear hHeld hb2 hbw hB1 hX1 hO1 hsa1 hb12
    cases fd
    · have Hni : Hid ((x1, x2, x3, x4, x5) ∉ l) := of_decide_eq_false Hfd.out
      have Hnew := Lib.hid (HN2.out Hni.out)
      clear HN2 HM Hfd HS
      have hd : decide ((2000 : Int) ≤ (l.length : Int)) = false := decide_eq_false (by omega)
      have hB2_l := hB2.lt; have hB2_0 := hB2.cell 0; have hB2_1 := hB2.cell 1; have hB2_2 := hB2.cell 2; have hB2_3 := hB2.cell 3; have hB2_4 := hB2.cell 4; simp at hB2_0 hB2_1 hB2_2 hB2_3 hB2_4
      have hX2_l := hX2.lt; have hX2_0 := hX2.cell 0; have hX2_1 := hX2.cell 1; have hX2_2 := hX2.cell 2; have hX2_3 := hX2.cell 3; have hX2_4 := hX2.cell 4; simp at hX2_0 hX2_1 hX2_2 hX2_3 hX2_4
      have hnb : ¬ (Value.slice la l.length cap).ownBlock = some b := fun e => by have := (Hol.out _ e).1; omega
      have hnx : ¬ (Value.slice la l.length cap).ownBlock = some w.heap.size := fun e => by have := (Hol.out _ e).2; omega
      have HSx : Hid (∀ wx, Kp (fun j => (Value.slice la l.length cap).ownBlock = some j) w2 wx → (wx.cell? ⟨b, 4, none⟩ = some (.slice la l.length cap) ∧ wx.cell? ⟨w.heap.size, 0, none⟩ = some (.string x1) ∧ wx.cell? ⟨w.heap.size, 1, none⟩ = some (.int .i64 x2) ∧ wx.cell? ⟨w.heap.size, 2, none⟩ = some (.int .i64 x3) ∧ wx.cell? ⟨w.heap.size, 3, none⟩ = some (.string x4) ∧ wx.cell? ⟨w.heap.size, 4, none⟩ = some (.string x5))) := fun wx h => ⟨cellKp h hnb hB2_4, cellKp h hnx hX2_0, cellKp h hnx hX2_1, cellKp h hnx hX2_2, cellKp h hnx hX2_3, cellKp h hnx hX2_4⟩
      have hkA := (Kp.refl (fun j => (Value.slice la l.length cap).ownBlock = some j) w2).drew.alloc (.cells #[.string x1, .int .i64 x2, .int .i64 x3, .string x4, .string x5] 63)
      have hO3 := hO2.drew.alloc (.cells #[.string x1, .int .i64 x2, .int .i64 x3, .string x4, .string x5] 63)
      have hB3 := hB2.drew.alloc (.cells #[.string x1, .int .i64 x2, .int .i64 x3, .string x4, .string x5] 63)
      have Hlt2 := Lib.hid hO2.lt
      have hbs2 : b < w2.heap.size := hB2.lt
      have hbz2 : base ≤ w2.heap.size := Nat.le_trans hbase hbw2.size
      clear hB2_l hB2_0 hB2_1 hB2_2 hB2_3 hB2_4
      clear hX2_l hX2_0 hX2_1 hX2_2 hX2_3 hX2_4
      clear hX2 hO2
      have hB2_l := hB2.lt; have hB2_0 := hB2.cell 0; have hB2_1 := hB2.cell 1; have hB2_2 := hB2.cell 2; have hB2_3 := hB2.cell 3; have hB2_4 := hB2.cell 4; simp at hB2_0 hB2_1 hB2_2 hB2_3 hB2_4
      go_upto_region 9 with (fail)
      clear hB2_l hB2_0 hB2_1 hB2_2 hB2_3 hB2_4
      clear hB2 hd
      refine wp_regionF (S := (fun wx => wx.cell? ⟨b, 4, none⟩ = some (.slice la l.length cap) ∧ wx.cell? ⟨w.heap.size, 0, none⟩ = some (.string x1) ∧ wx.cell? ⟨w.heap.size, 1, none⟩ = some (.int .i64 x2) ∧ wx.cell? ⟨w.heap.size, 2, none⟩ = some (.int .i64 x3) ∧ wx.cell? ⟨w.heap.size, 3, none⟩ = some (.string x4) ∧ wx.cell? ⟨w.heap.size, 4, none⟩ = some (.string x5))) 11 (by kernel_rfl) ?hS (fun hHeld => ?_)
      case hS => exact HSx.out _ (Kp.refl _ _).drew
      refine rtakeF (i := 0) (d := (some 30)) (v := ?_) (n := 40) rfl (by kernel_rfl) (by kernel_rfl) (by kernel_rfl) (by kernel_rfl) (by kernel_rfl) (by kernel_rfl) (fun _ _ _ h => h) (by kernel_rfl) (by assumption) ?_ ?_
      rotate_left 1
      · (intro wI hSI; (try dsimp only at hSI); go_simp; (try with_reducible rfl))
      simp only [Act.put, List.setIfInBounds_toArray, List.set_cons_zero, List.set_cons_succ]
      refine rtakeF (i := 1) (d := (some 31)) (v := ?_) (n := 40) rfl (by kernel_rfl) (by kernel_rfl) (by kernel_rfl) (by kernel_rfl) (by kernel_rfl) (by kernel_rfl) (fun _ _ _ h => h) (by kernel_rfl) (by assumption) ?_ ?_
      rotate_left 1
      · (intro wI hSI; (try dsimp only at hSI); go_simp; (try with_reducible rfl))
      simp only [Act.put, List.setIfInBounds_toArray, List.set_cons_zero, List.set_cons_succ]
      refine rtakeF (i := 2) (d := (some 32)) (v := ?_) (n := 40) rfl (by kernel_rfl) (by kernel_rfl) (by kernel_rfl) (by kernel_rfl) (by kernel_rfl) (by kernel_rfl) (fun _ _ _ h => h) (by kernel_rfl) (by assumption) ?_ ?_
      rotate_left 1
      · (intro wI hSI; (try dsimp only at hSI); go_simp; (try with_reducible rfl))
      simp only [Act.put, List.setIfInBounds_toArray, List.set_cons_zero, List.set_cons_succ]
      refine rtakeF (i := 3) (d := (some 33)) (v := ?_) (n := 40) rfl (by kernel_rfl) (by kernel_rfl) (by kernel_rfl) (by kernel_rfl) (by kernel_rfl) (by kernel_rfl) (fun _ _ _ h => h) (by kernel_rfl) (by assumption) ?_ ?_
      rotate_left 1
      · (intro wI hSI; (try dsimp only at hSI); go_simp; (try with_reducible rfl))
      simp only [Act.put, List.setIfInBounds_toArray, List.set_cons_zero, List.set_cons_succ]
      refine rtakeF (i := 4) (d := (some 34)) (v := ?_) (n := 40) rfl (by kernel_rfl) (by kernel_rfl) (by kernel_rfl) (by kernel_rfl) (by kernel_rfl) (by kernel_rfl) (fun _ _ _ h => h) (by kernel_rfl) (by assumption) ?_ ?_
      rotate_left 1
      · (intro wI hSI; (try dsimp only at hSI); go_simp; (try with_reducible rfl))
      simp only [Act.put, List.setIfInBounds_toArray, List.set_cons_zero, List.set_cons_succ]
      refine rtakeF (i := 5) (d := (some 35)) (v := ?_) (n := 40) rfl (by kernel_rfl) (by kernel_rfl) (by kernel_rfl) (by kernel_rfl) (by kernel_rfl) (by kernel_rfl) (fun _ _ _ h => h) (by kernel_rfl) (by assumption) ?_ ?_
      rotate_left 1
      · (intro wI hSI; (try dsimp only at hSI); go_simp; (try with_reducible rfl))
      simp only [Act.put, List.setIfInBounds_toArray, List.set_cons_zero, List.set_cons_succ]
      refine rtakeF (i := 6) (d := (some 36)) (v := ?_) (n := 40) rfl (by kernel_rfl) (by kernel_rfl) (by kernel_rfl) (by kernel_rfl) (by kernel_rfl) (by kernel_rfl) (fun _ _ _ h => h) (by kernel_rfl) (by assumption) ?_ ?_
      rotate_left 1
      · (intro wI hSI; (try dsimp only at hSI); go_simp; (try with_reducible rfl))
      simp only [Act.put, List.setIfInBounds_toArray, List.set_cons_zero, List.set_cons_succ]
      refine rcallF (i := 7) (d := (some 37)) (by kernel_rfl) rfl (by kernel_rfl) (fun K hK => ?_)
      go_simp
      refine hK.out _ _ (.inr ?hS) (fun hHeld0 => ?_)
      case hS => exact HSx.out _ hkA
      clear hK K
      have hHeld := hHeld0.resolve_left (by decide)
      simp only [Act.put, List.setIfInBounds_toArray, List.set_cons_zero, List.set_cons_succ]
      refine rcallF (i := 8) (d := (some 38)) (by kernel_rfl) rfl (by kernel_rfl) (fun K hK => ?_)
      go_simp
      go_at_call 65; refine (HI.out _ _ hO3 (Box.new _ _ _) (fun j hj => (Hlt2.out j hj).2) (by simp; omega)).mono ?_; rintro e w5 ⟨v5, rfl, hown5, hk5, hlie5⟩; rw [HIN.out] at hown5; obtain ⟨a5, c5, rfl, -, -, -⟩ := hown5.form
      refine hK.out _ _ (.inr ?hS) (fun hHeld0 => ?_)
      case hS => exact HSx.out _ (hkA.trans hk5)
      clear hK K
      have hHeld := hHeld0.resolve_left (by decide)
      simp only [Act.put, List.setIfInBounds_toArray, List.set_cons_zero, List.set_cons_succ]
      refine rtakeF (i := 9) (d := (some 39)) (v := ?_) (n := 40) rfl (by kernel_rfl) (by kernel_rfl) (by kernel_rfl) (by kernel_rfl) (by kernel_rfl) (by kernel_rfl) (fun _ _ _ h => h) (by kernel_rfl) (by assumption) ?_ ?_
      rotate_left 1
      · (intro wI hSI; (try dsimp only at hSI); go_simp; (try with_reducible rfl))
      simp only [Act.put, List.setIfInBounds_toArray, List.set_cons_zero, List.set_cons_succ]
      refine rtakeF (i := 10) (d := (some 40)) (v := ?_) (n := 40) rfl (by kernel_rfl) (by kernel_rfl) (by kernel_rfl) (by kernel_rfl) (by kernel_rfl) (by kernel_rfl) (fun _ _ _ h => h) (by kernel_rfl) (by assumption) ?_ ?_
      rotate_left 1
      · (intro wI hSI; (try dsimp only at hSI); go_simp; (try with_reducible rfl))
      simp only [Act.put, List.setIfInBounds_toArray, List.set_cons_zero, List.set_cons_succ]
      have hq5 := hB3.kp hk5 hnb
      have hfr5 := hq5.frozen 4
      have hc5 := hq5.cell 4
      simp at hc5
      refine rcallF (i := 11) (d := none) (by kernel_rfl) rfl (by kernel_rfl) (fun K hK => ?_)
      go_simp
      refine hK.out undef _ (.inl rfl) (fun _ => ?_)
      clear hK K
      simp only [Act.put, List.setIfInBounds_toArray, List.set_cons_zero, List.set_cons_succ]
      refine wpAnyF_done (by kernel_rfl) ?_ _
      have hkB := hkA.trans hk5
      have hne5 : ∀ j, (Value.slice a5 il.length c5).ownBlock = some j → ¬ (j = b) := fun j hj e => by
        rcases hlie5 j hj with h1 | h1
        · exact hnb (by rw [← e]; exact h1)
        · simp at h1; omega
      have hk6 := (Kp.refl (fun j => j = b) w5).setCell (p := ⟨b, 4, none⟩) (.inl rfl) (.slice a5 il.length c5)
      have hown6 := hown5.kp hk6 hne5
      have hbx6 := hq5.set 4 (.slice a5 il.length c5)
      have HFIN : Hid (BoxAt 97 base b o a f a3 s3 c3 (.slice a5 il.length c5) il (w5.setCell ⟨b, 4, none⟩ (.slice a5 il.length c5)) ∧ Moves b (.slice la l.length cap) (.slice a5 il.length c5) w (w5.setCell ⟨b, 4, none⟩ (.slice a5 il.length c5))) := by
        refine ⟨⟨by simpa using hbx6, hown6, hbb⟩, ⟨((Kp.of_below hbw2).trans (hkB.mono (fun k hk => .inl (.inr hk)))).trans (hk6.mono (fun k hk => .inl (.inl hk))), fun j hj => ?_⟩⟩
        rcases hlie5 j hj with h1 | h1
        · exact .inl h1
        · have := hbw2.size
          simp at h1
          exact .inr (by omega)
      obtain ⟨ep, eb⟩ := Hnew.out
      subst ep eb
      clear hHeld hq5 hfr5 hc5 hkB hne5 hk6 hown6 hbx6 hown5 hk5 hB3 hO3 hkA
      go_wp2_with fail
      go_ret2
      first | exact ⟨_, rfl, HFIN.out.1, HFIN.out.2⟩ | exact ⟨rfl, _, HFIN.out.1, HFIN.out.2⟩
    · have Hin : Hid ((x1, x2, x3, x4, x5) ∈ l) := Lib.hid (of_decide_eq_true Hfd.out)
      obtain ⟨ep, eb⟩ := HM.out Hin.out
      subst ep eb
      clear HN2 HM HS
      go_wp2_with fail
      go_ret2
      first | exact ⟨_, rfl, ⟨hB2, hO2, hbb⟩, Moves.of_below hbw2⟩ | exact ⟨rfl, _, ⟨hB2, hO2, hbb⟩, Moves.of_below hbw2⟩
  · obtain ⟨ep, eb⟩ := HF.out haf
    subst ep eb
    have hq : (af != 0) = true := by simpa using haf
    clear haf HN HM HF HS
    go_wp2_with fail
    go_ret2
    first | exact ⟨_, rfl, ⟨hB1, hO1, hbb⟩, Moves.of_below hbw⟩ | exact ⟨rfl, _, ⟨hB1, hO1, hbb⟩, Moves.of_below hbw⟩
end Go.Proofs.YtifflpilnpcmoaaGreatDoor

/-! The reference's Box: Put. -/
namespace Go.Proofs.YtifflpilnpcmoaaGreatDoor
open Go.RowKit
set_option linter.unusedVariables false
set_option linter.unusedSimpArgs false

set_option maxRecDepth 100000 in
set_option maxHeartbeats 8000000 in
theorem putR_any {base b : Nat} {o a f : Int} {a3 : Option Addr} {s3 c3 : Nat} {v : Value} {l : List Arv} (x : Arv) (w : World) (h : BoxAt 99 base b o a f a3 s3 c3 v l w) (hE : Env w) (hx : ArvOk x) (hr : RiseA l) (hl : l.length ≤ 1000) (hbase : base ≤ w.heap.size) :
    Calls Tryz.prog 31 #[.pointer (some ⟨b, 0, none⟩), encA x] w (fun e w' => ∃ v', e = .returned (.tuple #[.bool (putB l x), .int .i64 (aF x)]) ∧ BoxAt 99 base b o a f a3 s3 c3 v' (putL l x) w' ∧ Moves b v v' w w') := by
  obtain ⟨hB, hO, hbb⟩ := h
  obtain ⟨hx1, hx2, hx3, -⟩ := hx
  have HA := Lib.hid (fun W (hE : Env W) => arrivalFault_any x.1 x.2.1 x.2.2.1 x.2.2.2.1 x.2.2.2.2 W hE (by omega) (by omega) (by omega))
  have Hol := Lib.hid hO.lt
  obtain ⟨la, cap, rfl, hsa, -, hcap⟩ := hO.form
  have HS := Lib.hid (fun W (h : SA W la l) => containsArr_any l la cap x W h (by omega))
  have HI := Lib.hid (fun W v (h : Own base 63 W v (l ++ [x])) => sortArr_any base (l ++ [x]) v W 62 (enters_of Tryz.func62 (by kernel_rfl) rfl) (fun x y W => boxOrder_any x y W) h (by simp; omega))
  have HN := Lib.hid (fun (h0 : aF x = 0) (h : x ∉ l) => (And.intro (putL_new h0 h).1 (And.intro (putL_new h0 h).2 (put_same hr h))))
  have HM := Lib.hid (fun (h : x ∈ l) => putL_in h)
  have HF := Lib.hid (fun (h0 : aF x ≠ 0) => putL_bad (l := l) h0)
  have Haf : Hid (aF x = arrivalFault x.1 x.2.1 x.2.2.1 x.2.2.2.1 x.2.2.2.2) := rfl
  rw [Haf.out] at HN HF ⊢
  generalize hpl : putL l x = pl at *
  generalize hpb : putB l x = pb at *
  generalize insA l x = il at *
  generalize sortC cmpA (l ++ [x]) = sl at *
  generalize arrivalFault x.1 x.2.1 x.2.2.1 x.2.2.2.1 x.2.2.2.2 = af at *
  obtain ⟨fd, hfd⟩ : ∃ fd, decide (x ∈ l) = fd := ⟨_, rfl⟩
  rw [hfd] at HS
  have Hfd := Lib.hid hfd
  clear hfd hpl hpb Haf hx1 hx2 hx3 hr
  obtain ⟨x1, x2, x3, x4, x5⟩ := x
  unfold encA at *
  unfold arrAgg at *
  simp only at HA
  have hX := Box.new w 63 #[.string x1, .int .i64 x2, .int .i64 x3, .string x4, .string x5]
  have hb0 : Below w.heap.size w (w.alloc (.cells #[.string x1, .int .i64 x2, .int .i64 x3, .string x4, .string x5] 63)) := (Below.refl _ _).alloc (Nat.le_refl _) _
  go_enter Tryz.func31, Tryz.ntmps31
  go_wp2_with fail
  refine (HA.out _ (hE.alloc _)).mono ?_
  rintro e w1 ⟨rfl, hb1⟩
  have hbw := below_next hb0 hb1
  have hX1 := hX.below hb1
  have hB1 := hB.below hbw
  have hO1 := hO.below hbw
  have hsa1 := hsa.below hbw
  have hxs : w.heap.size < w1.heap.size := hX1.lt
  clear hX hb0 hb1 hE HA hsa hB hO
  by_cases haf : af = 0
  · have HN2 := Lib.hid (HN.out haf)
    clear HN HF
    subst haf
    go_upto_region 4 with (fail)
    have hB1_l := hB1.lt; have hB1_0 := hB1.cell 0; have hB1_1 := hB1.cell 1; have hB1_2 := hB1.cell 2; have hB1_3 := hB1.cell 3; have hB1_4 := hB1.cell 4; simp at hB1_0 hB1_1 hB1_2 hB1_3 hB1_4
    have hX1_l := hX1.lt; have hX1_0 := hX1.cell 0; have hX1_1 := hX1.cell 1; have hX1_2 := hX1.cell 2; have hX1_3 := hX1.cell 3; have hX1_4 := hX1.cell 4; simp at hX1_0 hX1_1 hX1_2 hX1_3 hX1_4
    refine wp_region_held_drew (S := (fun wx => wx.cell? ⟨b, 4, none⟩ = some (.slice la l.length cap) ∧ wx.cell? ⟨w.heap.size, 0, none⟩ = some (.string x1) ∧ wx.cell? ⟨w.heap.size, 1, none⟩ = some (.int .i64 x2) ∧ wx.cell? ⟨w.heap.size, 2, none⟩ = some (.int .i64 x3) ∧ wx.cell? ⟨w.heap.size, 3, none⟩ = some (.string x4) ∧ wx.cell? ⟨w.heap.size, 4, none⟩ = some (.string x5) ∧ Below w1.heap.size w1 wx)) (by kernel_rfl) ?hS (fun hHeld => ?_)
    case hS => exact ⟨hB1_4, hX1_0, hX1_1, hX1_2, hX1_3, hX1_4, (Below.refl _ _).drew⟩
    refine rtake (i := 0) (d := (some 12)) (v := ?_) rfl (by kernel_rfl) (by kernel_rfl) (by kernel_rfl) (by kernel_rfl) (fun _ _ _ h => h) (by kernel_rfl) (by assumption) ?_ ?_
    rotate_left 1
    · (intro wI hSI; (try dsimp only at hSI); go_simp; (try with_reducible rfl))
    simp only [Act.put, List.setIfInBounds_toArray, List.set_cons_zero, List.set_cons_succ]
    refine rtake (i := 1) (d := (some 13)) (v := ?_) rfl (by kernel_rfl) (by kernel_rfl) (by kernel_rfl) (by kernel_rfl) (fun _ _ _ h => h) (by kernel_rfl) (by assumption) ?_ ?_
    rotate_left 1
    · (intro wI hSI; (try dsimp only at hSI); go_simp; (try with_reducible rfl))
    simp only [Act.put, List.setIfInBounds_toArray, List.set_cons_zero, List.set_cons_succ]
    refine rtake (i := 2) (d := (some 14)) (v := ?_) rfl (by kernel_rfl) (by kernel_rfl) (by kernel_rfl) (by kernel_rfl) (fun _ _ _ h => h) (by kernel_rfl) (by assumption) ?_ ?_
    rotate_left 1
    · (intro wI hSI; (try dsimp only at hSI); go_simp; (try with_reducible rfl))
    simp only [Act.put, List.setIfInBounds_toArray, List.set_cons_zero, List.set_cons_succ]
    refine rtake (i := 3) (d := (some 15)) (v := ?_) rfl (by kernel_rfl) (by kernel_rfl) (by kernel_rfl) (by kernel_rfl) (fun _ _ _ h => h) (by kernel_rfl) (by assumption) ?_ ?_
    rotate_left 1
    · (intro wI hSI; (try dsimp only at hSI); go_simp; (try with_reducible rfl))
    simp only [Act.put, List.setIfInBounds_toArray, List.set_cons_zero, List.set_cons_succ]
    refine rtake (i := 4) (d := (some 16)) (v := ?_) rfl (by kernel_rfl) (by kernel_rfl) (by kernel_rfl) (by kernel_rfl) (fun _ _ _ h => h) (by kernel_rfl) (by assumption) ?_ ?_
    rotate_left 1
    · (intro wI hSI; (try dsimp only at hSI); go_simp; (try with_reducible rfl))
    simp only [Act.put, List.setIfInBounds_toArray, List.set_cons_zero, List.set_cons_succ]
    refine rcall (i := 5) (d := (some 17)) (by kernel_rfl) rfl (by kernel_rfl) (fun K hK => ?_)
    go_simp
    go_at_call 61; refine (HS.out _ (hsa1.below hHeld.2.2.2.2.2.2)).mono ?_; rintro e w2 ⟨rfl, hb2⟩
    refine hK.out _ _ ?hS (fun hHeld => ?_)
    case hS => exact ⟨cell_later hb2 hHeld.1, cell_later hb2 hHeld.2.1, cell_later hb2 hHeld.2.2.1, cell_later hb2 hHeld.2.2.2.1, cell_later hb2 hHeld.2.2.2.2.1, cell_later hb2 hHeld.2.2.2.2.2.1, below_next hHeld.2.2.2.2.2.2 hb2⟩
    clear hK K
    simp only [Act.put, List.setIfInBounds_toArray, List.set_cons_zero, List.set_cons_succ]
    refine wpAnyH_done (by kernel_rfl) ?_ _
    have hb12 := hHeld.2.2.2.2.2.2
    have hbw2 := below_next hbw hb12
    have hB2 := hB1.below hb12
    have hX2 := hX1.below hb12
    have hO2 := hO1.below hb12
    clear hB1_l hB1_0 hB1_1 hB1_2 hB1_3 hB1_4
    clear hX1_l hX1_0 hX1_1 hX1_2 hX1_3 hX1_4
    clear hHeld hb2 hbw hB1 hX1 hO1 hsa1 hb12
    cases fd
    · have Hni : Hid ((x1, x2, x3, x4, x5) ∉ l) := of_decide_eq_false Hfd.out
      have Hnew := Lib.hid (HN2.out Hni.out)
      clear HN2 HM Hfd HS
      have hd : ((l.length : Int) == (2000 : Int)) = false := by rw [beq_eq_false_iff_ne]; omega
      have hB2_l := hB2.lt; have hB2_0 := hB2.cell 0; have hB2_1 := hB2.cell 1; have hB2_2 := hB2.cell 2; have hB2_3 := hB2.cell 3; have hB2_4 := hB2.cell 4; simp at hB2_0 hB2_1 hB2_2 hB2_3 hB2_4
      have hX2_l := hX2.lt; have hX2_0 := hX2.cell 0; have hX2_1 := hX2.cell 1; have hX2_2 := hX2.cell 2; have hX2_3 := hX2.cell 3; have hX2_4 := hX2.cell 4; simp at hX2_0 hX2_1 hX2_2 hX2_3 hX2_4
      have hnb : ¬ (Value.slice la l.length cap).ownBlock = some b := fun e => by have := (Hol.out _ e).1; omega
      have hnx : ¬ (Value.slice la l.length cap).ownBlock = some w.heap.size := fun e => by have := (Hol.out _ e).2; omega
      have HSx : Hid (∀ wx, Kp (fun j => (Value.slice la l.length cap).ownBlock = some j) w2 wx → (wx.cell? ⟨b, 4, none⟩ = some (.slice la l.length cap) ∧ wx.cell? ⟨w.heap.size, 0, none⟩ = some (.string x1) ∧ wx.cell? ⟨w.heap.size, 1, none⟩ = some (.int .i64 x2) ∧ wx.cell? ⟨w.heap.size, 2, none⟩ = some (.int .i64 x3) ∧ wx.cell? ⟨w.heap.size, 3, none⟩ = some (.string x4) ∧ wx.cell? ⟨w.heap.size, 4, none⟩ = some (.string x5))) := fun wx h => ⟨cellKp h hnb hB2_4, cellKp h hnx hX2_0, cellKp h hnx hX2_1, cellKp h hnx hX2_2, cellKp h hnx hX2_3, cellKp h hnx hX2_4⟩
      have hkA := (Kp.refl (fun j => (Value.slice la l.length cap).ownBlock = some j) w2).drew.alloc (.cells #[.string x1, .int .i64 x2, .int .i64 x3, .string x4, .string x5] 63)
      have hO3 := hO2.drew.alloc (.cells #[.string x1, .int .i64 x2, .int .i64 x3, .string x4, .string x5] 63)
      have hB3 := hB2.drew.alloc (.cells #[.string x1, .int .i64 x2, .int .i64 x3, .string x4, .string x5] 63)
      have hbs2 : b < w2.heap.size := hB2.lt
      have hbz2 : base ≤ w2.heap.size := Nat.le_trans hbase hbw2.size
      clear hB2_l hB2_0 hB2_1 hB2_2 hB2_3 hB2_4
      clear hX2_l hX2_0 hX2_1 hX2_2 hX2_3 hX2_4
      clear hX2 hO2
      have hB2_l := hB2.lt; have hB2_0 := hB2.cell 0; have hB2_1 := hB2.cell 1; have hB2_2 := hB2.cell 2; have hB2_3 := hB2.cell 3; have hB2_4 := hB2.cell 4; simp at hB2_0 hB2_1 hB2_2 hB2_3 hB2_4
      go_upto_region 8 with (fail)
      clear hB2_l hB2_0 hB2_1 hB2_2 hB2_3 hB2_4
      clear hB2 hd
      refine wp_regionF (S := (fun wx => wx.cell? ⟨b, 4, none⟩ = some (.slice la l.length cap) ∧ wx.cell? ⟨w.heap.size, 0, none⟩ = some (.string x1) ∧ wx.cell? ⟨w.heap.size, 1, none⟩ = some (.int .i64 x2) ∧ wx.cell? ⟨w.heap.size, 2, none⟩ = some (.int .i64 x3) ∧ wx.cell? ⟨w.heap.size, 3, none⟩ = some (.string x4) ∧ wx.cell? ⟨w.heap.size, 4, none⟩ = some (.string x5))) 10 (by kernel_rfl) ?hS (fun hHeld => ?_)
      case hS => exact HSx.out _ (Kp.refl _ _).drew
      refine rtakeF (i := 0) (d := (some 24)) (v := ?_) (n := 40) rfl (by kernel_rfl) (by kernel_rfl) (by kernel_rfl) (by kernel_rfl) (by kernel_rfl) (by kernel_rfl) (fun _ _ _ h => h) (by kernel_rfl) (by assumption) ?_ ?_
      rotate_left 1
      · (intro wI hSI; (try dsimp only at hSI); go_simp; (try with_reducible rfl))
      simp only [Act.put, List.setIfInBounds_toArray, List.set_cons_zero, List.set_cons_succ]
      refine rtakeF (i := 1) (d := (some 25)) (v := ?_) (n := 40) rfl (by kernel_rfl) (by kernel_rfl) (by kernel_rfl) (by kernel_rfl) (by kernel_rfl) (by kernel_rfl) (fun _ _ _ h => h) (by kernel_rfl) (by assumption) ?_ ?_
      rotate_left 1
      · (intro wI hSI; (try dsimp only at hSI); go_simp; (try with_reducible rfl))
      simp only [Act.put, List.setIfInBounds_toArray, List.set_cons_zero, List.set_cons_succ]
      refine rtakeF (i := 2) (d := (some 26)) (v := ?_) (n := 40) rfl (by kernel_rfl) (by kernel_rfl) (by kernel_rfl) (by kernel_rfl) (by kernel_rfl) (by kernel_rfl) (fun _ _ _ h => h) (by kernel_rfl) (by assumption) ?_ ?_
      rotate_left 1
      · (intro wI hSI; (try dsimp only at hSI); go_simp; (try with_reducible rfl))
      simp only [Act.put, List.setIfInBounds_toArray, List.set_cons_zero, List.set_cons_succ]
      refine rtakeF (i := 3) (d := (some 27)) (v := ?_) (n := 40) rfl (by kernel_rfl) (by kernel_rfl) (by kernel_rfl) (by kernel_rfl) (by kernel_rfl) (by kernel_rfl) (fun _ _ _ h => h) (by kernel_rfl) (by assumption) ?_ ?_
      rotate_left 1
      · (intro wI hSI; (try dsimp only at hSI); go_simp; (try with_reducible rfl))
      simp only [Act.put, List.setIfInBounds_toArray, List.set_cons_zero, List.set_cons_succ]
      refine rtakeF (i := 4) (d := (some 28)) (v := ?_) (n := 40) rfl (by kernel_rfl) (by kernel_rfl) (by kernel_rfl) (by kernel_rfl) (by kernel_rfl) (by kernel_rfl) (fun _ _ _ h => h) (by kernel_rfl) (by assumption) ?_ ?_
      rotate_left 1
      · (intro wI hSI; (try dsimp only at hSI); go_simp; (try with_reducible rfl))
      simp only [Act.put, List.setIfInBounds_toArray, List.set_cons_zero, List.set_cons_succ]
      refine rtakeF (i := 5) (d := (some 29)) (v := ?_) (n := 40) rfl (by kernel_rfl) (by kernel_rfl) (by kernel_rfl) (by kernel_rfl) (by kernel_rfl) (by kernel_rfl) (fun _ _ _ h => h) (by kernel_rfl) (by assumption) ?_ ?_
      rotate_left 1
      · (intro wI hSI; (try dsimp only at hSI); go_simp; (try with_reducible rfl))
      simp only [Act.put, List.setIfInBounds_toArray, List.set_cons_zero, List.set_cons_succ]
      refine rcallF (i := 6) (d := (some 30)) (by kernel_rfl) rfl (by kernel_rfl) (fun K hK => ?_)
      go_simp
      refine hK.out _ _ (.inr ?hS) (fun hHeld0 => ?_)
      case hS => exact HSx.out _ hkA
      clear hK K
      have hHeld := hHeld0.resolve_left (by decide)
      simp only [Act.put, List.setIfInBounds_toArray, List.set_cons_zero, List.set_cons_succ]
      refine rcallF (i := 7) (d := (some 31)) (by kernel_rfl) rfl (by kernel_rfl) (fun K hK => ?_)
      refine step_append_lie (by rfl) _ _ 30 (by rfl) 63 64 (.agg #[.string ⟨#[]⟩, .int .i64 0, .int .i64 0, .string ⟨#[]⟩, .string ⟨#[]⟩]) Tryz.underlying30 infoArr (by rfl) (.slice la l.length cap) l (by rfl) hO3 (x1, x2, x3, x4, x5) _ (by rfl) (Box.new _ _ _) (by omega) (by omega) (by simp; omega) ?_; intro g9 cap9 w9 hown9 hg9 hat9; have hkB := hkA.grown hg9 (fun j hj => .inl hj)
      refine hK.out _ _ (.inr ?hS) (fun hHeld0 => ?_)
      case hS => exact HSx.out _ hkB
      clear hK K
      have hHeld := hHeld0.resolve_left (by decide)
      simp only [Act.put, List.setIfInBounds_toArray, List.set_cons_zero, List.set_cons_succ]
      refine rtakeF (i := 8) (d := (some 32)) (v := ?_) (n := 40) rfl (by kernel_rfl) (by kernel_rfl) (by kernel_rfl) (by kernel_rfl) (by kernel_rfl) (by kernel_rfl) (fun _ _ _ h => h) (by kernel_rfl) (by assumption) ?_ ?_
      rotate_left 1
      · (intro wI hSI; (try dsimp only at hSI); go_simp; (try with_reducible rfl))
      simp only [Act.put, List.setIfInBounds_toArray, List.set_cons_zero, List.set_cons_succ]
      refine rtakeF (i := 9) (d := (some 33)) (v := ?_) (n := 40) rfl (by kernel_rfl) (by kernel_rfl) (by kernel_rfl) (by kernel_rfl) (by kernel_rfl) (by kernel_rfl) (fun _ _ _ h => h) (by kernel_rfl) (by assumption) ?_ ?_
      rotate_left 1
      · (intro wI hSI; (try dsimp only at hSI); go_simp; (try with_reducible rfl))
      simp only [Act.put, List.setIfInBounds_toArray, List.set_cons_zero, List.set_cons_succ]
      have hq5 := hB3.kp ((Kp.refl (fun j => (Value.slice la l.length cap).ownBlock = some j) _).grown hg9 (fun j hj => .inl hj)) hnb
      have hfr5 := hq5.frozen 4
      have hc5 := hq5.cell 4
      simp at hc5
      refine rcallF (i := 10) (d := none) (by kernel_rfl) rfl (by kernel_rfl) (fun K hK => ?_)
      go_simp
      refine hK.out undef _ (.inl rfl) (fun _ => ?_)
      clear hK K
      simp only [Act.put, List.setIfInBounds_toArray, List.set_cons_zero, List.set_cons_succ]
      refine wpAnyF_done (by kernel_rfl) ?_ _
      have hz9 := hkB.size
      have hne9 : g9 ≠ b := by
        rcases hat9 with h1 | h1
        · exact fun e => hnb (by rw [h1, e])
        · simp at h1; omega
      have hlie9 : (Value.slice la l.length cap).ownBlock = some g9 ∨ w2.heap.size ≤ g9 := by
        rcases hat9 with h1 | h1
        · exact .inl h1
        · simp at h1; exact .inr (by omega)
      clear hat9 hg9 hHeld
      have hk6 := (Kp.refl (fun j => j = b) w9).setCell (p := ⟨b, 4, none⟩) (.inl rfl) (.slice (some ⟨g9, 0, none⟩) (l.length + 1) cap9)
      have hown6 := hown9.kp hk6 (fun j hj e => hne9 (by rw [← e]; exact Option.some.inj hj))
      have hbx6 := hq5.set 4 (.slice (some ⟨g9, 0, none⟩) (l.length + 1) cap9)
      have hkC := hkB.mono (Y := fun j => j = b ∨ (Value.slice la l.length cap).ownBlock = some j) (fun k hk => .inl (.inr hk))
      have hkD := hkC.trans (hk6.mono (Y := fun j => j = b ∨ (Value.slice la l.length cap).ownBlock = some j) (fun k hk => .inl (.inl hk)))
      replace hbx6 : Box (w9.setCell ⟨b, 4, none⟩ (.slice (some ⟨g9, 0, none⟩) (l.length + 1) cap9)) b 99 #[.int .i64 o, .int .i64 a, .int .i64 f, .slice a3 s3 c3, .slice (some ⟨g9, 0, none⟩) (l.length + 1) cap9] := by simpa using hbx6
      clear hq5 hfr5 hc5 hkB hkC hk6 hown9 hB3 hO3 hkA HSx
      go_upto_region 9 with (fail)
      generalize w9.setCell ⟨b, 4, none⟩ (.slice (some ⟨g9, 0, none⟩) (l.length + 1) cap9) = W9 at *
      have hbx6_l := hbx6.lt; have hbx6_0 := hbx6.cell 0; have hbx6_1 := hbx6.cell 1; have hbx6_2 := hbx6.cell 2; have hbx6_3 := hbx6.cell 3; have hbx6_4 := hbx6.cell 4; simp at hbx6_0 hbx6_1 hbx6_2 hbx6_3 hbx6_4
      have hll : (l ++ [(x1, x2, x3, x4, x5)]).length = l.length + 1 := by simp
      go_wp2_with fail
      refine (HI.out _ _ hown6).mono ?_
      rintro e w10 ⟨rfl, hown10, hk10⟩
      have hbx10 := hbx6.kp hk10 (fun e => hne9 (Option.some.inj e))
      obtain ⟨ep, eb, es⟩ := Hnew.out
      subst ep eb es
      clear hbx6_l hbx6_0 hbx6_1 hbx6_2 hbx6_3 hbx6_4
      clear hbx6 hown6
      have hle10 : W9.heap.size ≤ w10.heap.size := hk10.size
      have hkE : Kp (fun j => j = b ∨ (Value.slice la l.length cap).ownBlock = some j) w w10 := by
        have h1 := ((Kp.of_below (X := fun j => (j = b ∨ (Value.slice la l.length cap).ownBlock = some j) ∨ j = g9) hbw2).trans (hkD.mono (fun k hk => .inl (.inl hk)))).trans (hk10.mono (fun k hk => .inl (.inr (Option.some.inj hk).symm)))
        refine h1.mono (fun k hk => ?_)
        rcases hk with hk | rfl
        · exact .inl hk
        · exact hlie9.elim (fun h => .inl (.inr h)) (fun h => .inr (Nat.le_trans hbw2.size h))
      have hmv : Moves b (.slice la l.length cap) (.slice (some ⟨g9, 0, none⟩) (l.length + 1) cap9) w w10 := ⟨hkE, fun j hj => by
        obtain rfl : g9 = j := Option.some.inj hj
        exact hlie9.imp id (fun h => Nat.le_trans hbw2.size h)⟩
      have HFIN := Lib.hid (And.intro (show BoxAt 99 base b o a f a3 s3 c3 (.slice (some ⟨g9, 0, none⟩) (l.length + 1) cap9) _ w10 from ⟨hbx10, hown10, hbb⟩) hmv)
      clear hmv hkE hbx10 hown10 hk10 hkD
      go_wp2_with fail
      go_ret2
      first | exact ⟨_, rfl, HFIN.out.1, HFIN.out.2⟩ | exact ⟨rfl, _, HFIN.out.1, HFIN.out.2⟩
    · have Hin : Hid ((x1, x2, x3, x4, x5) ∈ l) := Lib.hid (of_decide_eq_true Hfd.out)
      obtain ⟨ep, eb⟩ := HM.out Hin.out
      subst ep eb
      clear HN2 HM HS
      go_wp2_with fail
      go_ret2
      first | exact ⟨_, rfl, ⟨hB2, hO2, hbb⟩, Moves.of_below hbw2⟩ | exact ⟨rfl, _, ⟨hB2, hO2, hbb⟩, Moves.of_below hbw2⟩
  · obtain ⟨ep, eb⟩ := HF.out haf
    subst ep eb
    have hq : (af != 0) = true := by simpa using haf
    clear haf HN HM HF HS
    go_wp2_with fail
    go_ret2
    first | exact ⟨_, rfl, ⟨hB1, hO1, hbb⟩, Moves.of_below hbw⟩ | exact ⟨rfl, _, ⟨hB1, hO1, hbb⟩, Moves.of_below hbw⟩
end Go.Proofs.YtifflpilnpcmoaaGreatDoor
