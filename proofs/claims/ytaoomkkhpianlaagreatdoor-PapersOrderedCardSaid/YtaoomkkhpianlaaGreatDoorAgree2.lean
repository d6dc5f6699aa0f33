/- Agreement of the program: apart, plus, zero, one, Agreement. -/
import Derived.Test.YtaoomkkhpianlaaGreatDoorAgree1
namespace Go.Proofs.YtaoomkkhpianlaaGreatDoor
open Go.RowKit Go.Sort
set_option linter.unusedVariables false
set_option linter.unusedSimpArgs false

/-- append(s, t...): the elements of another slice. -/
theorem wpList_append_all {α : Type} [Cel α] {w : World} {base : Nat} {P : Program} {ops : Array Oper} {rest : List Oper} {o : Oper} {a : Act} {Q : Exit → Act → World → Prop} (hgd : o.guard = none) (s x : Operand) (t : TypeId)
    (ho : o.op = .call { callee := .builtin .append, args := #[s, x], argTypes := #[t, t] }) (E bytes : Nat) (z : Value) (ht : P.underlying t = some (.slice E))
    (hE : (P.info? E).map (fun i => (i.zero, i.size, i.bytes)) = some (some z, Cel.k α, bytes)) (hzs : z.cells.size = Cel.k α)
    (v : Value) (l : List α) (hs : a.eval s = v) (hown : Own base E w v l) (m : List α) (av : Option Addr) (cap : Nat) (hx : a.eval x = .slice av m.length cap) (hsa : SA w av m) (hm : m ≠ [])
    (hlen : (l.length + m.length) * bytes ≤ 140737488355328) (hmax : l.length + m.length ≤ 1000000000000) (hbase : base ≤ w.heap.size)
    (h : ∀ a' cap' w', Own base E w' (.slice a' (l ++ m).length cap') (l ++ m) → w.grownBy w' v.ownBlock → wpList P ops Q rest (a.put o.dst (.slice a' (l ++ m).length cap')) w') : wpList P ops Q (o :: rest) a w := by
  obtain ⟨i0, hi, hz0, hz1, hz2⟩ := info_parts hE
  rcases hsa with hm' | ⟨b, off, rfl, harr⟩
  · exact absurd hm' hm
  · have hfl : (m.flatMap Cel.cells).length = m.length * Cel.k α := by
      clear harr hx hlen hmax h hm
      induction m with
      | nil => simp
      | cons y r ih => rw [List.flatMap_cons, List.length_append, ih, Cel.len, List.length_cons, Nat.add_mul]; omega
    refine wpList_append_own w hgd s x t ho base E i0 z (Cel.k α) bytes ht hi hz0 hz1 hz2 hzs Cel.pos v l.length (l.flatMap Cel.cells) hs hown ⟨b, off, none⟩ m.length cap (m.flatMap Cel.cells) hx hfl ?_ ?_ (by unfold maxLen; omega) hlen hbase ?_
    · intro j u hu
      have hj : j < m.length * Cel.k α := by rw [← hfl]; exact (List.getElem?_eq_some_iff.1 hu).1
      have hk := Cel.pos (α := α)
      have hi1 : j / Cel.k α < m.length := Nat.div_lt_of_lt_mul (by rw [Nat.mul_comm]; exact hj)
      have hj1 : j % Cel.k α < Cel.k α := Nat.mod_lt _ hk
      have e : j / Cel.k α * Cel.k α + j % Cel.k α = j := by rw [Nat.mul_comm]; exact Nat.div_add_mod j (Cel.k α)
      have h1 := harr (j / Cel.k α) (j % Cel.k α) _ (List.getElem?_eq_getElem hi1) hj1
      have h2 := flat_get m (j / Cel.k α) (j % Cel.k α) _ (List.getElem?_eq_getElem hi1) hj1
      rw [e] at h1 h2
      rw [show (Addr.add ⟨b, off, none⟩ j : Addr) = ⟨b, off + j, none⟩ from by unfold Addr.add; split <;> simp_all]
      rw [h1, ← h2, hu]
    · intro u hu
      obtain ⟨y, _, hy⟩ := List.mem_flatMap.1 hu
      exact Cel.one y u hy
    · intro v' w' h1 h2 _
      have h3 : Own base E w' v' (l ++ m) := by
        unfold Own
        rw [List.length_append, List.flatMap_append]
        exact h1
      obtain ⟨a', cap', rfl, _⟩ := h3.sa
      exact h a' cap' w' h3 h2

set_option maxHeartbeats 400000 in
theorem apart_any (l : List Mark) (a : Option Addr) (cap : Nat) (w : World) (hs : SA w a l) (hl : l.length ≤ 1000) (hok : okScores l) :
    Calls Tryz.prog 67 #[.slice a l.length cap] w (Gives (.int .i64 (apartI l)) w) := by
  have hbd := sums_bd hok
  have hm1 := mul_in (x := (l.length : Int)) (y := sum2 l) (X := 1000) (Y := 100000) (by omega) (by omega) (by omega) (by omega)
  have hm2 := mul_in (x := sum1 l) (y := sum1 l) (X := 10000) (Y := 10000) (by omega) (by omega) (by omega) (by omega)
  have HS := Lib.hid (sums_any l a cap w hs (by omega) hok)
  unfold apartI
  generalize sum1 l = s1 at *
  generalize sum2 l = s2 at *
  go_enter Tryz.func67, Tryz.ntmps67
  go_wp2_with fail
  refine HS.out.mono ?_
  rintro e w1 ⟨rfl, hb1⟩
  go_wp2_with fail
  go_ret
  exact ⟨rfl, hb1⟩
set_option maxHeartbeats 1000000 in
theorem plusC_any (a b c d : Int) (w : World) (h1 : (a * d).natAbs ≤ 4000000000000000000) (h2 : (c * b).natAbs ≤ 4000000000000000000) (h3 : 1 ≤ b * d) (h4 : b * d ≤ 4000000000000000000) :
    Calls Tryz.prog 65 #[.agg #[.int .i64 a, .int .i64 b], .agg #[.int .i64 c, .int .i64 d]] w (Gives (low (a * d + c * b) (b * d)) w) := by
  have HL := Lib.hid (fun W => lowest_any (a * d + c * b) (b * d) W (by omega) (by omega) h3)
  have hk1 : -4000000000000000000 ≤ a * d := by omega
  have hk2 : a * d ≤ 4000000000000000000 := by omega
  have hk3 : -4000000000000000000 ≤ c * b := by omega
  have hk4 : c * b ≤ 4000000000000000000 := by omega
  unfold low at *
  clear h1 h2
  go_enter Tryz.func65, Tryz.ntmps65
  go_wp2_with fail
  refine (HL.out _).mono ?_
  rintro e w1 ⟨rfl, hb1⟩
  have hz1 := hb1.size
  simp at hz1
  have hbo := (Box.newAt ((w.alloc (.cells #[.int .i64 a, .int .i64 b] 30)).alloc (.cells #[.int .i64 c, .int .i64 d] 30)) (w.heap.size + 1 + 1) 30 #[.int .i64 0, .int .i64 0] (by simp)).below hb1
  generalize lowN (a * d + c * b) (b * d) = q1 at *
  generalize lowD (a * d + c * b) (b * d) = q2 at *
  have hbo_l := hbo.lt; have hbo_0 := hbo.cell 0; have hbo_1 := hbo.cell 1; simp at hbo_0 hbo_1
  have hbo_f0 := hbo.frozen 0; have hbo_f1 := hbo.frozen 1
  clear HL
  go_wp2_with fail
  refine bodyPost_ret (v := .agg #[.int .i64 q1, .int .i64 q2]) (by simp only [results, Tryz.results65]; go_simp) rfl ⟨rfl, ?_⟩
  (repeat' (first | exact Below.refl _ _ | assumption | refine Below.setCell ?_ ?_ _ | refine below_drewN ?_ _ | refine Below.drew ?_ | refine Below.alloc ?_ ?_ _ | (with_reducible refine Below.trans ?_ (Below.mono hb ?_)) | (with_reducible refine Below.trans ?_ (Below.mono hb0 ?_)) | (with_reducible refine Below.trans ?_ (Below.mono hb1 ?_)) | (with_reducible refine Below.trans ?_ (Below.mono hb2 ?_)) | (with_reducible refine Below.trans ?_ (Below.mono hb3 ?_)) | (with_reducible refine Below.trans ?_ (Below.mono hb4 ?_)) | (with_reducible refine Below.trans ?_ (Below.mono hb5 ?_)) | (with_reducible refine Below.trans ?_ (Below.mono hb6 ?_)) | (with_reducible refine Below.trans ?_ (Below.mono hb7 ?_)) | (with_reducible refine Below.trans ?_ (Below.mono hb8 ?_)) | (with_reducible refine Below.trans ?_ (Below.mono hb9 ?_)) | (with_reducible refine Below.trans ?_ (Below.mono hb10 ?_)) | (with_reducible refine Below.trans ?_ (Below.mono hb11 ?_)) | (with_reducible refine Below.trans ?_ (Below.mono hb12 ?_)) | (with_reducible refine Below.trans ?_ (Below.mono hb13 ?_)) | (with_reducible refine Below.trans ?_ (Below.mono hb14 ?_)) | (with_reducible refine Below.trans ?_ (Below.mono hb15 ?_)) | omega | (simp; done) | (simp; omega)))
set_option maxHeartbeats 1000000 in
theorem plusR_any (a b c d : Int) (w : World) (h1 : (a * d).natAbs ≤ 4000000000000000000) (h2 : (c * b).natAbs ≤ 4000000000000000000) (h3 : 1 ≤ b * d) (h4 : b * d ≤ 4000000000000000000) :
    Calls Tryz.prog 76 #[.agg #[.int .i64 a, .int .i64 b], .agg #[.int .i64 c, .int .i64 d]] w (Gives (low (a * d + c * b) (b * d)) w) := by
  have HL := Lib.hid (fun W => part_any (a * d + c * b) (b * d) W (by omega) (by omega) h3)
  have hk1 : -4000000000000000000 ≤ a * d := by omega
  have hk2 : a * d ≤ 4000000000000000000 := by omega
  have hk3 : -4000000000000000000 ≤ c * b := by omega
  have hk4 : c * b ≤ 4000000000000000000 := by omega
  unfold low at *
  clear h1 h2
  go_enter Tryz.func76, Tryz.ntmps76
  go_wp2_with fail
  refine (HL.out _).mono ?_
  rintro e w1 ⟨rfl, hb1⟩
  have hz1 := hb1.size
  simp at hz1
  have hbo := (Box.newAt ((w.alloc (.cells #[.int .i64 a, .int .i64 b] 30)).alloc (.cells #[.int .i64 c, .int .i64 d] 30)) (w.heap.size + 1 + 1) 30 #[.int .i64 0, .int .i64 0] (by simp)).below hb1
  generalize lowN (a * d + c * b) (b * d) = q1 at *
  generalize lowD (a * d + c * b) (b * d) = q2 at *
  have hbo_l := hbo.lt; have hbo_0 := hbo.cell 0; have hbo_1 := hbo.cell 1; simp at hbo_0 hbo_1
  have hbo_f0 := hbo.frozen 0; have hbo_f1 := hbo.frozen 1
  clear HL
  go_wp2_with fail
  refine bodyPost_ret (v := .agg #[.int .i64 q1, .int .i64 q2]) (by simp only [results, Tryz.results76]; go_simp) rfl ⟨rfl, ?_⟩
  (repeat' (first | exact Below.refl _ _ | assumption | refine Below.setCell ?_ ?_ _ | refine below_drewN ?_ _ | refine Below.drew ?_ | refine Below.alloc ?_ ?_ _ | (with_reducible refine Below.trans ?_ (Below.mono hb ?_)) | (with_reducible refine Below.trans ?_ (Below.mono hb0 ?_)) | (with_reducible refine Below.trans ?_ (Below.mono hb1 ?_)) | (with_reducible refine Below.trans ?_ (Below.mono hb2 ?_)) | (with_reducible refine Below.trans ?_ (Below.mono hb3 ?_)) | (with_reducible refine Below.trans ?_ (Below.mono hb4 ?_)) | (with_reducible refine Below.trans ?_ (Below.mono hb5 ?_)) | (with_reducible refine Below.trans ?_ (Below.mono hb6 ?_)) | (with_reducible refine Below.trans ?_ (Below.mono hb7 ?_)) | (with_reducible refine Below.trans ?_ (Below.mono hb8 ?_)) | (with_reducible refine Below.trans ?_ (Below.mono hb9 ?_)) | (with_reducible refine Below.trans ?_ (Below.mono hb10 ?_)) | (with_reducible refine Below.trans ?_ (Below.mono hb11 ?_)) | (with_reducible refine Below.trans ?_ (Below.mono hb12 ?_)) | (with_reducible refine Below.trans ?_ (Below.mono hb13 ?_)) | (with_reducible refine Below.trans ?_ (Below.mono hb14 ?_)) | (with_reducible refine Below.trans ?_ (Below.mono hb15 ?_)) | omega | (simp; done) | (simp; omega)))
theorem zeroC_any (w : World) : Calls Tryz.prog 63 #[] w (Gives (.agg #[.int .i64 0, .int .i64 1]) w) := by
  go_enter Tryz.func63, Tryz.ntmps63
  go_wp2_with fail
  refine bodyPost_ret (v := .agg #[.int .i64 0, .int .i64 1]) (by simp only [results, Tryz.results63]; go_simp) rfl ⟨rfl, ?_⟩
  (repeat' (first | exact Below.refl _ _ | assumption | refine Below.setCell ?_ ?_ _ | refine below_drewN ?_ _ | refine Below.drew ?_ | refine Below.alloc ?_ ?_ _ | (with_reducible refine Below.trans ?_ (Below.mono hb ?_)) | (with_reducible refine Below.trans ?_ (Below.mono hb0 ?_)) | (with_reducible refine Below.trans ?_ (Below.mono hb1 ?_)) | (with_reducible refine Below.trans ?_ (Below.mono hb2 ?_)) | (with_reducible refine Below.trans ?_ (Below.mono hb3 ?_)) | (with_reducible refine Below.trans ?_ (Below.mono hb4 ?_)) | (with_reducible refine Below.trans ?_ (Below.mono hb5 ?_)) | (with_reducible refine Below.trans ?_ (Below.mono hb6 ?_)) | (with_reducible refine Below.trans ?_ (Below.mono hb7 ?_)) | (with_reducible refine Below.trans ?_ (Below.mono hb8 ?_)) | (with_reducible refine Below.trans ?_ (Below.mono hb9 ?_)) | (with_reducible refine Below.trans ?_ (Below.mono hb10 ?_)) | (with_reducible refine Below.trans ?_ (Below.mono hb11 ?_)) | (with_reducible refine Below.trans ?_ (Below.mono hb12 ?_)) | (with_reducible refine Below.trans ?_ (Below.mono hb13 ?_)) | (with_reducible refine Below.trans ?_ (Below.mono hb14 ?_)) | (with_reducible refine Below.trans ?_ (Below.mono hb15 ?_)) | omega | (simp; done) | (simp; omega)))
theorem oneC_any (w : World) : Calls Tryz.prog 68 #[] w (Gives (.agg #[.int .i64 1, .int .i64 1]) w) := by
  go_enter Tryz.func68, Tryz.ntmps68
  go_wp2_with fail
  refine bodyPost_ret (v := .agg #[.int .i64 1, .int .i64 1]) (by simp only [results, Tryz.results68]; go_simp) rfl ⟨rfl, ?_⟩
  (repeat' (first | exact Below.refl _ _ | assumption | refine Below.setCell ?_ ?_ _ | refine below_drewN ?_ _ | refine Below.drew ?_ | refine Below.alloc ?_ ?_ _ | (with_reducible refine Below.trans ?_ (Below.mono hb ?_)) | (with_reducible refine Below.trans ?_ (Below.mono hb0 ?_)) | (with_reducible refine Below.trans ?_ (Below.mono hb1 ?_)) | (with_reducible refine Below.trans ?_ (Below.mono hb2 ?_)) | (with_reducible refine Below.trans ?_ (Below.mono hb3 ?_)) | (with_reducible refine Below.trans ?_ (Below.mono hb4 ?_)) | (with_reducible refine Below.trans ?_ (Below.mono hb5 ?_)) | (with_reducible refine Below.trans ?_ (Below.mono hb6 ?_)) | (with_reducible refine Below.trans ?_ (Below.mono hb7 ?_)) | (with_reducible refine Below.trans ?_ (Below.mono hb8 ?_)) | (with_reducible refine Below.trans ?_ (Below.mono hb9 ?_)) | (with_reducible refine Below.trans ?_ (Below.mono hb10 ?_)) | (with_reducible refine Below.trans ?_ (Below.mono hb11 ?_)) | (with_reducible refine Below.trans ?_ (Below.mono hb12 ?_)) | (with_reducible refine Below.trans ?_ (Below.mono hb13 ?_)) | (with_reducible refine Below.trans ?_ (Below.mono hb14 ?_)) | (with_reducible refine Below.trans ?_ (Below.mono hb15 ?_)) | omega | (simp; done) | (simp; omega)))
end Go.Proofs.YtaoomkkhpianlaaGreatDoor
