/- The sum of an event: sumOf of the program, EventSum of the reference. -/
import Derived.Test.YtnocceilpnmbpaaGreatDoorEv3
namespace Go.Proofs.YtnocceilpnmbpaaGreatDoor
open Go.RowKit
set_option linter.unusedVariables false
set_option linter.unusedSimpArgs false

theorem decDigits_len : ∀ (k u : Nat), u < 10 ^ (k + 1) → (Lib.decDigits u).length ≤ k + 1
 | 0, u, h => by rw [Lib.decDigits, dif_pos (by simpa using h)]; simp
 | k + 1, u, h => by
  by_cases hs : u < 10
  ·
   rw [Lib.decDigits, dif_pos hs]; simp
  ·
   rw [Lib.decDigits, dif_neg hs, List.length_append]
   have := decDigits_len k (u / 10) (by rw [Nat.pow_succ] at h; omega)
   simp
   omega
theorem itoaB_size {n : Int} (h1 : -1000000000 ≤ n) (h2 : n ≤ 1000000000) : (itoaB n).size ≤ 1000 := by
 show (Lib.itoa n).toArray.size ≤ _
 rw [List.size_toArray]
 unfold Lib.itoa
 have h3 : ∀ u : Nat, u ≤ 1000000000 → (Lib.decDigits u).length ≤ 10 := fun u hu => decDigits_len 9 u (by rw [show 10 ^ (9 + 1) = 10000000000 from by decide]; omega)
 split
 ·
  have := h3 n.natAbs (by omega)
  simp
  omega
 ·
  have := h3 n.toNat (by omega)
  omega
theorem dashB_size {s : ByteArray} {n : Nat} (h : s.size ≤ n) (hn : 1 ≤ n) : (dashB s).size ≤ n := by
 unfold dashB
 split
 ·
  exact hn
 ·
  exact h
theorem afterT_size {l : List ByteArray} (hl : l.length ≤ 2000) (h : ∀ x ∈ l, x.size ≤ 1000) : (dashB (joinU l ⟨#[43]⟩)).size ≤ 2002000 := by
 refine dashB_size ?_ (by omega)
 have h1 := joinU_size l ⟨#[43]⟩ 1000 h
 have h2 : l.length * (1000 + (⟨#[43]⟩ : ByteArray).size) ≤ 2000 * (1000 + 1) := Nat.mul_le_mul hl (by show 1000 + 1 ≤ _; omega)
 omega
theorem join8_size {xs : List ByteArray} (hl : xs.length ≤ 8) (h : ∀ x ∈ xs, x.size ≤ 2002000) : (joinU xs ⟨#[32]⟩).size ≤ 1000000000 := by
 have h1 := joinU_size xs ⟨#[32]⟩ 2002000 h
 have h2 : xs.length * (2002000 + (⟨#[32]⟩ : ByteArray).size) ≤ 8 * (2002000 + 1) := Nat.mul_le_mul hl (by show 2002000 + 1 ≤ _; omega)
 omega
/-- Eight cells stay while memory grows. -/
theorem ev_later {W w w' : World} {b : Nat} {v1 v2 v3 v4 v5 v6 v7 v8 : Value}
  (h : w.cell? ⟨b, 1, none⟩ = some v1 ∧ w.cell? ⟨b, 2, none⟩ = some v2 ∧ w.cell? ⟨b, 3, none⟩ = some v3 ∧ w.cell? ⟨b, 4, none⟩ = some v4 ∧ w.cell? ⟨b, 5, none⟩ = some v5 ∧ w.cell? ⟨b, 6, none⟩ = some v6 ∧ w.cell? ⟨b, 7, none⟩ = some v7 ∧ w.cell? ⟨b, 8, none⟩ = some v8 ∧ Below W.heap.size W w) (hb : Below w.heap.size w w') :
  w'.cell? ⟨b, 1, none⟩ = some v1 ∧ w'.cell? ⟨b, 2, none⟩ = some v2 ∧ w'.cell? ⟨b, 3, none⟩ = some v3 ∧ w'.cell? ⟨b, 4, none⟩ = some v4 ∧ w'.cell? ⟨b, 5, none⟩ = some v5 ∧ w'.cell? ⟨b, 6, none⟩ = some v6 ∧ w'.cell? ⟨b, 7, none⟩ = some v7 ∧ w'.cell? ⟨b, 8, none⟩ = some v8 ∧ Below W.heap.size W w' := by
 obtain ⟨h1, h2, h3, h4, h5, h6, h7, h8, h9⟩ := h
 exact ⟨cell_later hb h1, cell_later hb h2, cell_later hb h3, cell_later hb h4, cell_later hb h5, cell_later hb h6, cell_later hb h7, cell_later hb h8, below_next h9 hb⟩
set_option maxRecDepth 100000 in
set_option maxHeartbeats 4000000 in
theorem sumOf_any (x : Ev) (w : World) (hE : EnvE w) (hok : EvOk x) (hrd : ERd w x) : Calls Tryz.prog 50 #[x.agg] w (Gives (.string (evSum x)) w) := by
 have hez := hok.sum; have he1 := hok.at1; have he2 := hok.at2; have hel := hok.len; have hea := hok.after; have hk1 := hok.kind1; have hk2 := hok.kind2
 have HOK := Lib.hid hok
 obtain ⟨x1, x2, x3, x4, x5, x6, x7, x8, x9, xa, xc⟩ := x
 obtain ⟨hsa, hac⟩ := hrd
 simp only at hez he1 he2 hel hea hk1 hk2 hsa hac
 clear hok
 have HS : Hid (evSum ⟨x1, x2, x3, x4, x5, x6, x7, x8, x9, xa, xc⟩ = digB (joinU [x2, itoaB x3, dashB (joinU x4 ⟨#[43]⟩), itoaB x5, dashB x6, dashB x7, dashB x8, x9] ⟨#[32]⟩)) := rfl
 have hzA := afterT_size hel hea
 have hz8 : ∀ x ∈ [x2, itoaB x3, dashB (joinU x4 ⟨#[43]⟩), itoaB x5, dashB x6, dashB x7, dashB x8, x9], x.size ≤ 2002000 := by
  have k1 := HOK.out.desk; have k2 := itoaB_size he1 he2; have k3 := itoaB_size (n := x5) (by omega) (by omega); have k4 := dashB_size HOK.out.who (by omega); have k5 := dashB_size HOK.out.paper (by omega); have k6 := dashB_size HOK.out.wth (by omega); have k7 := HOK.out.txt
  simp only at k1 k4 k5 k6 k7
  intro x hx
  simp only [List.mem_cons, List.not_mem_nil, or_false] at hx
  rcases hx with rfl | rfl | rfl | rfl | rfl | rfl | rfl | rfl <;> omega
 have hzJ := join8_size (xs := [x2, itoaB x3, dashB (joinU x4 ⟨#[43]⟩), itoaB x5, dashB x6, dashB x7, dashB x8, x9]) (by simp) hz8
 have HZ8 := Lib.hid hz8
 clear hz8 hzA HOK
 have HIt := Lib.hid (fun n W h h0 h1 => itoa_any n W h h0 h1)
 have HJ := Lib.hid (fun W h => join_any x4 ⟨#[43]⟩ xa xc W h hac (by omega) (fun x hx => by have := hea x hx; omega) (by decide))
 generalize joinU x4 ⟨#[43]⟩ = y1 at *
 have HJ2 := Lib.hid (fun a cap W h hc => join_any [x2, itoaB x3, dashB y1, itoaB x5, dashB x6, dashB x7, dashB x8, x9] ⟨#[32]⟩ a cap W h hc (by simp) (fun x hx => by have := HZ8.out x hx; omega) (by decide))
 generalize evSum ⟨x1, x2, x3, x4, x5, x6, x7, x8, x9, xa, xc⟩ = res at *
 have HDg := Lib.hid (fun W h => digest_any (joinU [x2, itoaB x3, dashB y1, itoaB x5, dashB x6, dashB x7, dashB x8, x9] ⟨#[32]⟩) W hzJ h)
 generalize joinU [x2, itoaB x3, dashB y1, itoaB x5, dashB x6, dashB x7, dashB x8, x9] ⟨#[32]⟩ = y2 at *
 clear hzJ
 have hbx := Box.new w 53 #[.string x1, .string x2, .int .i64 x3, .slice xa x4.length xc, .int .i64 x5, .string x6, .string x7, .string x8, .string x9]
 have Hb := Lib.hid ((Below.refl w.heap.size w).alloc (Nat.le_refl _) (.cells #[.string x1, .string x2, .int .i64 x3, .slice xa x4.length xc, .int .i64 x5, .string x6, .string x7, .string x8, .string x9] 53))
 have HSA := Lib.hid (fun W (h : Below w.heap.size w W) => hsa.below h)
 have HE := Lib.hid (fun W (h : Below w.heap.size w W) => hE.below h)
 clear hsa hE
 unfold Ev.agg
 simp only
 go_enter Tryz.func50, Tryz.ntmps50
 go_upto_region 1 with (fail)
 generalize w.alloc (.cells #[.string x1, .string x2, .int .i64 x3, .slice xa x4.length xc, .int .i64 x5, .string x6, .string x7, .string x8, .string x9] 53) = W at *
 have hbx_l := hbx.lt; have hbx_0 := hbx.cell 0; have hbx_1 := hbx.cell 1; have hbx_2 := hbx.cell 2; have hbx_3 := hbx.cell 3; have hbx_4 := hbx.cell 4; have hbx_5 := hbx.cell 5; have hbx_6 := hbx.cell 6; have hbx_7 := hbx.cell 7; have hbx_8 := hbx.cell 8; simp at hbx_0 hbx_1 hbx_2 hbx_3 hbx_4 hbx_5 hbx_6 hbx_7 hbx_8
 refine wp_region_held_drew (S := (fun wx => wx.cell? ⟨w.heap.size, 1, none⟩ = some (.string x2) ∧ wx.cell? ⟨w.heap.size, 2, none⟩ = some (.int .i64 x3) ∧ wx.cell? ⟨w.heap.size, 3, none⟩ = some (.slice xa x4.length xc) ∧ wx.cell? ⟨w.heap.size, 4, none⟩ = some (.int .i64 x5) ∧ wx.cell? ⟨w.heap.size, 5, none⟩ = some (.string x6) ∧ wx.cell? ⟨w.heap.size, 6, none⟩ = some (.string x7) ∧ wx.cell? ⟨w.heap.size, 7, none⟩ = some (.string x8) ∧ wx.cell? ⟨w.heap.size, 8, none⟩ = some (.string x9) ∧ Below w.heap.size w wx)) (by kernel_rfl) ?hS (fun hHeld => ?_)
 case hS => exact ⟨hbx_1, hbx_2, hbx_3, hbx_4, hbx_5, hbx_6, hbx_7, hbx_8, Hb.out.drew⟩
 refine rt 0 (some 3) ?_
 refine rt 1 (some 4) ?_
 refine rt 2 (some 5) ?_
 refine rt 3 (some 6) ?_
 refine rt 5 (some 8) ?_
 refine rt 6 (some 9) ?_
 refine rt 9 (some 12) ?_
 refine rt 10 (some 13) ?_
 refine rt 12 (some 15) ?_
 refine rt 13 (some 16) ?_
 refine rt 15 (some 18) ?_
 refine rt 16 (some 19) ?_
 refine rt 18 (some 21) ?_
 refine rt 19 (some 22) ?_
 refine rt 21 (some 24) ?_
 refine rt 22 (some 25) ?_
 refine rcall (i := 4) (d := (some 7)) (by kernel_rfl) rfl (by kernel_rfl) (fun K hK => ?_)
 go_simp
 go_at_call 86; refine (HIt.out _ _ (HE.out _ hHeld.2.2.2.2.2.2.2.2) (by omega) (by omega)).mono ?_; rintro e w' ⟨rfl, hbq⟩
 refine hK.out _ _ ?hS (fun hHeld => ?_)
 case hS => exact ev_later hHeld hbq
 clear hK K
 simp only [Act.put, lsetA, lsetZ, lsetS]
 refine rcall (i := 7) (d := (some 10)) (by kernel_rfl) rfl (by kernel_rfl) (fun K hK => ?_)
 go_simp
 go_at_call 85; refine (HJ.out _ (HSA.out _ hHeld.2.2.2.2.2.2.2.2)).mono ?_; rintro e w' ⟨rfl, hbq⟩
 refine hK.out _ _ ?hS (fun hHeld => ?_)
 case hS => exact ev_later hHeld hbq
 clear hK K
 simp only [Act.put, lsetA, lsetZ, lsetS]
 refine rcall (i := 8) (d := (some 11)) (by kernel_rfl) rfl (by kernel_rfl) (fun K hK => ?_)
 go_simp
 go_at_call 97; refine (dash_any _ _).mono ?_; rintro e w' ⟨rfl, rfl⟩
 refine hK.out _ _ ?hS (fun hHeld => ?_)
 case hS => exact hHeld
 clear hK K
 simp only [Act.put, lsetA, lsetZ, lsetS]
 refine rcall (i := 11) (d := (some 14)) (by kernel_rfl) rfl (by kernel_rfl) (fun K hK => ?_)
 go_simp
 go_at_call 86; refine (HIt.out _ _ (HE.out _ hHeld.2.2.2.2.2.2.2.2) (by omega) (by omega)).mono ?_; rintro e w' ⟨rfl, hbq⟩
 refine hK.out _ _ ?hS (fun hHeld => ?_)
 case hS => exact ev_later hHeld hbq
 clear hK K
 simp only [Act.put, lsetA, lsetZ, lsetS]
 refine rcall (i := 14) (d := (some 17)) (by kernel_rfl) rfl (by kernel_rfl) (fun K hK => ?_)
 go_simp
 go_at_call 97; refine (dash_any _ _).mono ?_; rintro e w' ⟨rfl, rfl⟩
 refine hK.out _ _ ?hS (fun hHeld => ?_)
 case hS => exact hHeld
 clear hK K
 simp only [Act.put, lsetA, lsetZ, lsetS]
 refine rcall (i := 17) (d := (some 20)) (by kernel_rfl) rfl (by kernel_rfl) (fun K hK => ?_)
 go_simp
 go_at_call 97; refine (dash_any _ _).mono ?_; rintro e w' ⟨rfl, rfl⟩
 refine hK.out _ _ ?hS (fun hHeld => ?_)
 case hS => exact hHeld
 clear hK K
 simp only [Act.put, lsetA, lsetZ, lsetS]
 refine rcall (i := 20) (d := (some 23)) (by kernel_rfl) rfl (by kernel_rfl) (fun K hK => ?_)
 go_simp
 go_at_call 97; refine (dash_any _ _).mono ?_; rintro e w' ⟨rfl, rfl⟩
 refine hK.out _ _ ?hS (fun hHeld => ?_)
 case hS => exact hHeld
 clear hK K
 simp only [Act.put, lsetA, lsetZ, lsetS]
 refine rcall (i := 23) (d := (some 26)) (by kernel_rfl) rfl (by kernel_rfl) (fun K hK => ?_)
 go_simp
 skip
 refine hK.out _ _ ?hS (fun hHeld => ?_)
 case hS => exact ev_later hHeld ((Below.refl _ _).alloc (Nat.le_refl _) _)
 clear hK K
 simp only [Act.put, lsetA, lsetZ, lsetS]
 refine rcall (i := 24) (d := (some 27)) (by kernel_rfl) rfl (by kernel_rfl) (fun K hK => ?_)
 go_simp
 go_at_call 85; refine (HJ2.out _ 8 _ (Box.sa (Box.new _ _ _) [x2, itoaB x3, dashB y1, itoaB x5, dashB x6, dashB x7, dashB x8, x9] rfl) (by simp)).mono ?_; rintro e w' ⟨rfl, hbq⟩
 refine hK.out _ _ ?hS (fun hHeld => ?_)
 case hS => exact ev_later hHeld hbq
 clear hK K
 simp only [Act.put, lsetA, lsetZ, lsetS]
 refine rcall (i := 25) (d := (some 28)) (by kernel_rfl) rfl (by kernel_rfl) (fun K hK => ?_)
 go_simp
 go_at_call 96; refine (HDg.out _ (HE.out _ hHeld.2.2.2.2.2.2.2.2).2).mono ?_; rintro e w' ⟨rfl, hbq⟩
 refine hK.out _ _ ?hS (fun hHeld => ?_)
 case hS => exact ev_later hHeld hbq
 clear hK K
 simp only [Act.put, lsetA, lsetZ, lsetS]
 refine rt 26 (some 2) ?_
 refine wpAnyH_done (by kernel_rfl) ?_ _
 have Hb3 := Lib.hid hHeld.2.2.2.2.2.2.2.2
 go_wp2_with fail
 go_ret
 exact ⟨by rw [HS.out] <;> rfl, Hb3.out⟩
set_option maxRecDepth 100000 in
set_option maxHeartbeats 4000000 in
theorem eventSum_any (x : Ev) (w : World) (hE : EnvE w) (hok : EvOk x) (hrd : ERd w x) : Calls Tryz.prog 44 #[x.agg] w (Gives (.string (evSum x)) w) := by
 have hez := hok.sum; have he1 := hok.at1; have he2 := hok.at2; have hel := hok.len; have hea := hok.after; have hk1 := hok.kind1; have hk2 := hok.kind2
 have HOK := Lib.hid hok
 obtain ⟨x1, x2, x3, x4, x5, x6, x7, x8, x9, xa, xc⟩ := x
 obtain ⟨hsa, hac⟩ := hrd
 simp only at hez he1 he2 hel hea hk1 hk2 hsa hac
 clear hok
 have HS : Hid (evSum ⟨x1, x2, x3, x4, x5, x6, x7, x8, x9, xa, xc⟩ = digB (joinU [x2, itoaB x3, dashB (joinU x4 ⟨#[43]⟩), itoaB x5, dashB x6, dashB x7, dashB x8, x9] ⟨#[32]⟩)) := rfl
 have hzA := afterT_size hel hea
 have hz8 : ∀ x ∈ [x2, itoaB x3, dashB (joinU x4 ⟨#[43]⟩), itoaB x5, dashB x6, dashB x7, dashB x8, x9], x.size ≤ 2002000 := by
  have k1 := HOK.out.desk; have k2 := itoaB_size he1 he2; have k3 := itoaB_size (n := x5) (by omega) (by omega); have k4 := dashB_size HOK.out.who (by omega); have k5 := dashB_size HOK.out.paper (by omega); have k6 := dashB_size HOK.out.wth (by omega); have k7 := HOK.out.txt
  simp only at k1 k4 k5 k6 k7
  intro x hx
  simp only [List.mem_cons, List.not_mem_nil, or_false] at hx
  rcases hx with rfl | rfl | rfl | rfl | rfl | rfl | rfl | rfl <;> omega
 have hzJ := join8_size (xs := [x2, itoaB x3, dashB (joinU x4 ⟨#[43]⟩), itoaB x5, dashB x6, dashB x7, dashB x8, x9]) (by simp) hz8
 have HZ8 := Lib.hid hz8
 clear hz8 hzA HOK
 have HIt := Lib.hid (fun n W h h0 h1 => itoa_any n W h h0 h1)
 have HJ := Lib.hid (fun W h => join_any x4 ⟨#[43]⟩ xa xc W h hac (by omega) (fun x hx => by have := hea x hx; omega) (by decide))
 generalize joinU x4 ⟨#[43]⟩ = y1 at *
 have HJ2 := Lib.hid (fun a cap W h hc => join_any [x2, itoaB x3, dashB y1, itoaB x5, dashB x6, dashB x7, dashB x8, x9] ⟨#[32]⟩ a cap W h hc (by simp) (fun x hx => by have := HZ8.out x hx; omega) (by decide))
 generalize evSum ⟨x1, x2, x3, x4, x5, x6, x7, x8, x9, xa, xc⟩ = res at *
 have HDg := Lib.hid (fun W h => digestOf_any (joinU [x2, itoaB x3, dashB y1, itoaB x5, dashB x6, dashB x7, dashB x8, x9] ⟨#[32]⟩) W hzJ h)
 generalize joinU [x2, itoaB x3, dashB y1, itoaB x5, dashB x6, dashB x7, dashB x8, x9] ⟨#[32]⟩ = y2 at *
 clear hzJ
 have hbx := Box.new w 53 #[.string x1, .string x2, .int .i64 x3, .slice xa x4.length xc, .int .i64 x5, .string x6, .string x7, .string x8, .string x9]
 have Hb := Lib.hid ((Below.refl w.heap.size w).alloc (Nat.le_refl _) (.cells #[.string x1, .string x2, .int .i64 x3, .slice xa x4.length xc, .int .i64 x5, .string x6, .string x7, .string x8, .string x9] 53))
 have HSA := Lib.hid (fun W (h : Below w.heap.size w W) => hsa.below h)
 have HE := Lib.hid (fun W (h : Below w.heap.size w W) => hE.below h)
 clear hsa hE
 unfold Ev.agg
 simp only
 go_enter Tryz.func44, Tryz.ntmps44
 go_upto_region 1 with (fail)
 generalize w.alloc (.cells #[.string x1, .string x2, .int .i64 x3, .slice xa x4.length xc, .int .i64 x5, .string x6, .string x7, .string x8, .string x9] 53) = W at *
 have hbx_l := hbx.lt; have hbx_0 := hbx.cell 0; have hbx_1 := hbx.cell 1; have hbx_2 := hbx.cell 2; have hbx_3 := hbx.cell 3; have hbx_4 := hbx.cell 4; have hbx_5 := hbx.cell 5; have hbx_6 := hbx.cell 6; have hbx_7 := hbx.cell 7; have hbx_8 := hbx.cell 8; simp at hbx_0 hbx_1 hbx_2 hbx_3 hbx_4 hbx_5 hbx_6 hbx_7 hbx_8
 refine wp_region_held_drew (S := (fun wx => wx.cell? ⟨w.heap.size, 1, none⟩ = some (.string x2) ∧ wx.cell? ⟨w.heap.size, 2, none⟩ = some (.int .i64 x3) ∧ wx.cell? ⟨w.heap.size, 3, none⟩ = some (.slice xa x4.length xc) ∧ wx.cell? ⟨w.heap.size, 4, none⟩ = some (.int .i64 x5) ∧ wx.cell? ⟨w.heap.size, 5, none⟩ = some (.string x6) ∧ wx.cell? ⟨w.heap.size, 6, none⟩ = some (.string x7) ∧ wx.cell? ⟨w.heap.size, 7, none⟩ = some (.string x8) ∧ wx.cell? ⟨w.heap.size, 8, none⟩ = some (.string x9) ∧ Below w.heap.size w wx)) (by kernel_rfl) ?hS (fun hHeld => ?_)
 case hS => exact ⟨hbx_1, hbx_2, hbx_3, hbx_4, hbx_5, hbx_6, hbx_7, hbx_8, Hb.out.drew⟩
 refine rt 0 (some 3) ?_
 refine rt 1 (some 4) ?_
 refine rt 2 (some 5) ?_
 refine rt 3 (some 6) ?_
 refine rt 5 (some 8) ?_
 refine rt 6 (some 9) ?_
 refine rt 9 (some 12) ?_
 refine rt 10 (some 13) ?_
 refine rt 12 (some 15) ?_
 refine rt 13 (some 16) ?_
 refine rt 15 (some 18) ?_
 refine rt 16 (some 19) ?_
 refine rt 18 (some 21) ?_
 refine rt 19 (some 22) ?_
 refine rt 21 (some 24) ?_
 refine rt 22 (some 25) ?_
 refine rcall (i := 4) (d := (some 7)) (by kernel_rfl) rfl (by kernel_rfl) (fun K hK => ?_)
 go_simp
 go_at_call 86; refine (HIt.out _ _ (HE.out _ hHeld.2.2.2.2.2.2.2.2) (by omega) (by omega)).mono ?_; rintro e w' ⟨rfl, hbq⟩
 refine hK.out _ _ ?hS (fun hHeld => ?_)
 case hS => exact ev_later hHeld hbq
 clear hK K
 simp only [Act.put, lsetA, lsetZ, lsetS]
 refine rcall (i := 7) (d := (some 10)) (by kernel_rfl) rfl (by kernel_rfl) (fun K hK => ?_)
 go_simp
 go_at_call 85; refine (HJ.out _ (HSA.out _ hHeld.2.2.2.2.2.2.2.2)).mono ?_; rintro e w' ⟨rfl, hbq⟩
 refine hK.out _ _ ?hS (fun hHeld => ?_)
 case hS => exact ev_later hHeld hbq
 clear hK K
 simp only [Act.put, lsetA, lsetZ, lsetS]
 refine rcall (i := 8) (d := (some 11)) (by kernel_rfl) rfl (by kernel_rfl) (fun K hK => ?_)
 go_simp
 go_at_call 87; refine (refDash_any _ _).mono ?_; rintro e w' ⟨rfl, rfl⟩
 refine hK.out _ _ ?hS (fun hHeld => ?_)
 case hS => exact hHeld
 clear hK K
 simp only [Act.put, lsetA, lsetZ, lsetS]
 refine rcall (i := 11) (d := (some 14)) (by kernel_rfl) rfl (by kernel_rfl) (fun K hK => ?_)
 go_simp
 go_at_call 86; refine (HIt.out _ _ (HE.out _ hHeld.2.2.2.2.2.2.2.2) (by omega) (by omega)).mono ?_; rintro e w' ⟨rfl, hbq⟩
 refine hK.out _ _ ?hS (fun hHeld => ?_)
 case hS => exact ev_later hHeld hbq
 clear hK K
 simp only [Act.put, lsetA, lsetZ, lsetS]
 refine rcall (i := 14) (d := (some 17)) (by kernel_rfl) rfl (by kernel_rfl) (fun K hK => ?_)
 go_simp
 go_at_call 87; refine (refDash_any _ _).mono ?_; rintro e w' ⟨rfl, rfl⟩
 refine hK.out _ _ ?hS (fun hHeld => ?_)
 case hS => exact hHeld
 clear hK K
 simp only [Act.put, lsetA, lsetZ, lsetS]
 refine rcall (i := 17) (d := (some 20)) (by kernel_rfl) rfl (by kernel_rfl) (fun K hK => ?_)
 go_simp
 go_at_call 87; refine (refDash_any _ _).mono ?_; rintro e w' ⟨rfl, rfl⟩
 refine hK.out _ _ ?hS (fun hHeld => ?_)
 case hS => exact hHeld
 clear hK K
 simp only [Act.put, lsetA, lsetZ, lsetS]
 refine rcall (i := 20) (d := (some 23)) (by kernel_rfl) rfl (by kernel_rfl) (fun K hK => ?_)
 go_simp
 go_at_call 87; refine (refDash_any _ _).mono ?_; rintro e w' ⟨rfl, rfl⟩
 refine hK.out _ _ ?hS (fun hHeld => ?_)
 case hS => exact hHeld
 clear hK K
 simp only [Act.put, lsetA, lsetZ, lsetS]
 refine rcall (i := 23) (d := (some 26)) (by kernel_rfl) rfl (by kernel_rfl) (fun K hK => ?_)
 go_simp
 skip
 refine hK.out _ _ ?hS (fun hHeld => ?_)
 case hS => exact ev_later hHeld ((Below.refl _ _).alloc (Nat.le_refl _) _)
 clear hK K
 simp only [Act.put, lsetA, lsetZ, lsetS]
 refine rcall (i := 24) (d := (some 27)) (by kernel_rfl) rfl (by kernel_rfl) (fun K hK => ?_)
 go_simp
 go_at_call 85; refine (HJ2.out _ 8 _ (Box.sa (Box.new _ _ _) [x2, itoaB x3, dashB y1, itoaB x5, dashB x6, dashB x7, dashB x8, x9] rfl) (by simp)).mono ?_; rintro e w' ⟨rfl, hbq⟩
 refine hK.out _ _ ?hS (fun hHeld => ?_)
 case hS => exact ev_later hHeld hbq
 clear hK K
 simp only [Act.put, lsetA, lsetZ, lsetS]
 refine rcall (i := 25) (d := (some 28)) (by kernel_rfl) rfl (by kernel_rfl) (fun K hK => ?_)
 go_simp
 go_at_call 84; refine (HDg.out _ (HE.out _ hHeld.2.2.2.2.2.2.2.2).2).mono ?_; rintro e w' ⟨rfl, hbq⟩
 refine hK.out _ _ ?hS (fun hHeld => ?_)
 case hS => exact ev_later hHeld hbq
 clear hK K
 simp only [Act.put, lsetA, lsetZ, lsetS]
 refine rt 26 (some 2) ?_
 refine wpAnyH_done (by kernel_rfl) ?_ _
 have Hb3 := Lib.hid hHeld.2.2.2.2.2.2.2.2
 go_wp2_with fail
 go_ret
 exact ⟨by rw [HS.out] <;> rfl, Hb3.out⟩
theorem digB_size (s : ByteArray) : (digB s).size ≤ 16 := by
 obtain ⟨u, h1, h2, h3⟩ := hashN_nat s
 have := hexL_ne u h3
 show (List.replicate (16 - (hexL (hashN s).toNat).length) 48 ++ hexL (hashN s).toNat).toArray.size ≤ _
 rw [h2, List.size_toArray, List.length_append, List.length_replicate]
 omega
theorem evSum_size (x : Ev) : (evSum x).size ≤ 16 := digB_size _
end Go.Proofs.YtnocceilpnmbpaaGreatDoor
