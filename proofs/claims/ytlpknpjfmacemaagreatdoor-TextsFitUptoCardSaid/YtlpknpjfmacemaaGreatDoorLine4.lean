/- Texts: sections. -/
import Derived.Test.YtlpknpjfmacemaaGreatDoorLine3
import Derived.Test.YtlpknpjfmacemaaGreatDoorRegF
namespace Go.Proofs.YtlpknpjfmacemaaGreatDoor
open Go.RowKit
set_option linter.unusedVariables false
set_option linter.unusedSimpArgs false

theorem Tryz.infoSect : (Tryz.prog.info? 54).map (fun i => (i.zero, i.size, i.bytes)) = some (some (.agg #[.int .i64 0, .string ⟨#[]⟩, .int .i64 0]), 3, 32) := by kernel_rfl
theorem secsL_take {l : List ByteArray} {k : Nat} (hk : k < l.length) : secsL (l.take (k + 1)) = secS (secsL (l.take k)) l[k] := by rw [List.take_succ_eq_append_getElem hk, secsL_snoc]
set_option maxRecDepth 100000 in
set_option maxHeartbeats 8000000 in
theorem sections_any (s : ByteArray) (w : World) (hE : Env w) (hs : s.size ≤ 100000) : Calls Tryz.prog 66 #[.string s] w (GivesOwn 54 (secsL (cutB 10 s)) w) := by
  have HS := Lib.hid (split_any 10 s w hE (by omega))
  have hll : (cutB 10 s).length ≤ 100001 := by have := cutB_len 10 s; omega
  have Hsz : Hid (∀ x ∈ cutB 10 s, x.size ≤ 100000) := fun x hx => by have := cutB_sizes 10 s x hx; omega
  have HH : Hid (∀ x W, Below w.heap.size w W → x.size ≤ 100000 → Calls Tryz.prog 132 #[.string x] W (Gives (.tuple #[.int .i64 (((headE x.data.toList).1 : Nat) : Int), .string (titleB x.data.toList)]) W)) := fun x W _ h => heading_any x W h
  have HW : Hid (∀ x W, x.size ≤ 100000 → Calls Tryz.prog 56 #[.string x] W (fun e w' => ∃ a c, e = .returned (.slice a (spots x).length c) ∧ Below W.heap.size W w')) := fun x W h => (wordsOf_any x W (by omega)).mono fun e w' ⟨v, he, hown, hb⟩ => by
    obtain ⟨a, c, rfl, -, -, -⟩ := hown.sa
    refine ⟨a, c, ?_, hb⟩
    rw [he]; unfold wordsT; rw [List.length_map]
  generalize cutB 10 s = l at *
  have Hfin : Hid (secsL (l.take l.length) = secsL l) := by show _ = _; rw [List.take_length]
  go_enter Tryz.func66, Tryz.ntmps66
  go_wp2_with fail
  refine HS.out.mono ?_
  rintro e W1 ⟨b, rfl, hown1, hb01⟩
  have hsa : SA W1 (some ⟨b, 0, none⟩) l := by obtain ⟨a', c', he, hh, _⟩ := hown1.sa; simp only [Value.slice.injEq] at he; rw [he.1]; exact hh
  clear HS hown1
  go_wp2_with fail
  go_loopg [3, 11] l.length (fun gk v i wr => ∃ k : Nat, i = .int .i64 k ∧ k ≤ l.length ∧ Hid (gk = l.length - k) ∧ Hid (∀ y ∈ secsL (l.take k), SecOk ((k : Int) * 100001) y) ∧ Own W1.heap.size 54 wr v (secsL (l.take k)) ∧ Below W1.heap.size W1 wr)
  case atStart => exact ⟨0, rfl, by omega, rfl, fun y hy => (by cases hy), Own.nil _ _ _, Below.refl _ _⟩
  obtain ⟨k, rfl, hk, hgk, hok, hown, hb⟩ := hrel
  have hzr := hb.size
  by_cases hlt : k < l.length
  · obtain ⟨qb, qoff, hqa, d0⟩ := (hsa.below hb).str hlt
    have hsz := Hsz.out l[k] (List.getElem_mem hlt)
    have HSt := Lib.hid (secsL_take hlt)
    have hal := secsL_length (l.take k)
    rw [List.length_take] at hal
    have Hok2 := Lib.hid (secS_ok (N := (k : Int) * 100001) (M := ((k + 1 : Nat) : Int) * 100001) (acc := secsL (l.take k)) (s := l[k]) (by omega) (by have := spots_len l[k]; omega) hok.out)
    have Hq := Lib.hid hqa
    rw [hqa]
    clear hqa
    generalize l[k] = x at *
    obtain ⟨acc2, ha2⟩ : ∃ a, secsL (l.take (k + 1)) = a := ⟨_, rfl⟩
    rw [ha2] at HSt
    have HA2 := Lib.hid ha2
    clear ha2
    generalize secsL (l.take k) = acc at *
    replace Hok2 : Hid (∀ y ∈ acc2, SecOk (((k + 1 : Nat) : Int) * 100001) y) := by rw [HSt.out]; exact Hok2
    have hk1 : (0 : Int) ≤ (k : Int) := by omega
    have hk2 : (k : Int) < (l.length : Int) := by omega
    have HHx := Lib.hid (HH.out x wr (hb01.trans (hb.mono hb01.size)) hsz)
    have HWx := Lib.hid (fun W => HW.out x W hsz)
    have hsp := spots_len x
    have htE : Hid (titleB x.data.toList = ⟨(headE x.data.toList).2.toArray⟩) := rfl
    unfold secS at HSt
    generalize titleB x.data.toList = tt at *
    rw [← htE.out] at HSt
    generalize (headE x.data.toList).1 = n at *
    generalize (spots x).length = sn at *
    go_wp2_with fail
    refine HHx.out.mono ?_
    rintro e w3 ⟨rfl, hb3⟩
    have hb3A := below_next hb hb3
    have hz3 := hb3A.size
    have hown3 := hown.below hb3
    clear hown HHx
    by_cases hn : 0 < n
    · rw [if_pos hn] at HSt
      have hd : decide ((0 : Int) < (n : Int)) = true := by simp; omega
      have hownA := hown3.alloc (.cells #[.int .i64 n, .string tt, .int .i64 0] 54)
      have hbo := Box.new w3 54 #[.int .i64 n, .string tt, .int .i64 0]
      have hba : Below W1.heap.size W1 (w3.alloc (.cells #[.int .i64 n, .string tt, .int .i64 0] 54)) := by (repeat' (first | exact Below.refl _ _ | assumption | refine Below.setCell ?_ ?_ _ | refine below_drewN ?_ _ | refine Below.drew ?_ | refine Below.alloc ?_ ?_ _ | (with_reducible refine Below.trans ?_ (Below.mono hb ?_)) | (with_reducible refine Below.trans ?_ (Below.mono hb0 ?_)) | (with_reducible refine Below.trans ?_ (Below.mono hb1 ?_)) | (with_reducible refine Below.trans ?_ (Below.mono hb2 ?_)) | (with_reducible refine Below.trans ?_ (Below.mono hb3 ?_)) | (with_reducible refine Below.trans ?_ (Below.mono hb4 ?_)) | (with_reducible refine Below.trans ?_ (Below.mono hb5 ?_)) | (with_reducible refine Below.trans ?_ (Below.mono hb6 ?_)) | (with_reducible refine Below.trans ?_ (Below.mono hb7 ?_)) | (with_reducible refine Below.trans ?_ (Below.mono hb8 ?_)) | (with_reducible refine Below.trans ?_ (Below.mono hb9 ?_)) | (with_reducible refine Below.trans ?_ (Below.mono hb10 ?_)) | (with_reducible refine Below.trans ?_ (Below.mono hb11 ?_)) | (with_reducible refine Below.trans ?_ (Below.mono hb12 ?_)) | (with_reducible refine Below.trans ?_ (Below.mono hb13 ?_)) | (with_reducible refine Below.trans ?_ (Below.mono hb14 ?_)) | (with_reducible refine Below.trans ?_ (Below.mono hb15 ?_)) | omega | (simp; done) | (simp; omega)))
      have Hol := Lib.hid hown3.lt
      have hn' : (0 : Int) < (n : Int) := by omega
      clear hown3
      go_wp2_with (at_builtin; refine wpList_append_lie (α := Sect) rfl _ _ 37 rfl 54 32 (.agg #[.int .i64 0, .string ⟨#[]⟩, .int .i64 0]) Tryz.underlying37 Tryz.infoSect rfl _ acc rfl hownA ((n : Int), tt, 0) _ rfl hbo (by omega) (by omega) (by simp; omega) ?_; intro g9 cap9 w9 hown9 hg9 hat9)
      have hb9 := hba.grown hg9 (by simp; omega) (fun j hj => (Hol.out j hj).1)
      rw [← HSt.out] at hown9
      rw [← Hq.out]
      (try go_wp2_with fail)
      go_roundg (l.length - (k + 1))
      case measure => have := hgk.out; omega
      case rel => exact ⟨k + 1, by go_num, by omega, rfl, by rw [HA2.out]; exact Hok2, by rw [HA2.out]; exact hown9, hb9⟩
    · rw [if_neg hn] at HSt
      obtain rfl : n = 0 := by omega
      clear hn
      rcases List.eq_nil_or_concat acc with rfl | ⟨ini, z, rfl⟩
      · have hq : acc2 = [] := HSt.out
        subst hq
        obtain ⟨oa, ocap, rfl, -, -, -⟩ := hown3.form
        go_wp2_with fail
        rw [← Hq.out]
        go_roundg (l.length - (k + 1))
        case measure => have := hgk.out; omega
        case rel => exact ⟨k + 1, by go_num, by omega, rfl, by rw [HA2.out]; exact Hok2, by rw [HA2.out]; exact hown3, hb3A⟩
      · rw [List.concat_eq_append] at *
        rw [bumpL_snoc] at HSt
        obtain ⟨zk1, zk2, zk3, zk4⟩ := hok.out z (by simp)
        have hown3L := hown3.lt
        obtain ⟨oa, ocap, rfl, hsa3, hf, hcap3⟩ := hown3.form
        have hmi : ini.length < (ini ++ [z]).length := by simp
        have hmz : (ini ++ [z])[ini.length] = z := by simp
        obtain ⟨gb, goff, hgo, c0, c1, c2⟩ := hsa3.sect hmi
        rcases hf with rfl | ⟨g, rfl, hg1, hg2⟩
        · cases hgo
        cases hgo
        rw [hmz, Nat.zero_add] at c2
        obtain ⟨cr, hbxo⟩ := hown3.box
        have hput := fun W (hW : Below w3.heap.size w3 W) => (hown3.below hW).put ini.length 2 (z.1, z.2.1, z.2.2 + (sn : Int)) (.int .i64 (z.2.2 + (sn : Int))) hmi (by decide) (by rw [hmz]; rfl)
        have Hset : Hid ((ini ++ [z]).set ini.length (z.1, z.2.1, z.2.2 + (sn : Int)) = acc2) := by show _ = _; rw [HSt.out, List.set_append_right _ _ (Nat.le_refl _), Nat.sub_self]; rfl
        have Hput := Lib.hid hput
        obtain ⟨z1, z2, z3⟩ := z
        simp only at zk1 zk2 zk3 zk4 c2 Hput Hset
        have hml : (ini ++ [(z1, z2, z3)]).length = ini.length + 1 := by simp
        rw [hml] at hal hcap3 Hput ⊢
        generalize ini.length = m at *
        have hw1 : IntKind.i64.wrap (((m + 1 : Nat) : Int) - 1) = (m : Int) := by rw [IntWalk.i64_in _ (by omega)]; omega
        have hw1' : IntKind.i64.wrap (((m : Int) + 1) - 1) = (m : Int) := by rw [IntWalk.i64_in _ (by omega)]; omega
        have hw0 : IntKind.i64.wrap (m : Int) = (m : Int) := IntWalk.i64_in _ (by omega)
        have hw2 : IntKind.i64.wrap (z3 + (sn : Int)) = z3 + (sn : Int) := IntWalk.i64_in _ (by omega)
        have hm1 : (0 : Int) ≤ (m : Int) := by omega
        have hm2 : (m : Int) < (m : Int) + 1 := by omega
        have hfr := fun W (hW : Below w3.heap.size w3 W) => (hbxo.below hW).frozen (m * 3 + 2)
        have Hfr := Lib.hid hfr
        have Hol := Lib.hid hown3L
        clear hput hfr hown3 hsa3 hbxo c0 c1 hmi hmz hown3L hml
        go_upto_region 9 with (fail)
        refine wp_regionF (S := (fun wx => wx.cell? ⟨gb, m * 3 + 2, none⟩ = some (.int .i64 z3) ∧ Below w3.heap.size w3 wx)) 13 (by kernel_rfl) ?hS (fun hHeld => ?_)
        case hS => exact ⟨c2, (Below.refl _ _).drew⟩
        refine rtakeF (i := 0) (d := (some 31)) (v := ?_) (n := 40) rfl (by kernel_rfl) (by kernel_rfl) (by kernel_rfl) (by kernel_rfl) (by kernel_rfl) (by kernel_rfl) (fun _ _ _ h => h) (by kernel_rfl) (by assumption) ?_ ?_
        rotate_left 1
        · (intro wI hSI; (try dsimp only at hSI); go_simp; (try with_reducible rfl))
        simp only [Act.put, List.setIfInBounds_toArray, List.set_cons_zero, List.set_cons_succ]
        refine rtakeF (i := 1) (d := (some 32)) (v := ?_) (n := 40) rfl (by kernel_rfl) (by kernel_rfl) (by kernel_rfl) (by kernel_rfl) (by kernel_rfl) (by kernel_rfl) (fun _ _ _ h => h) (by kernel_rfl) (by assumption) ?_ ?_
        rotate_left 1
        · (intro wI hSI; (try dsimp only at hSI); go_simp; (try with_reducible rfl))
        simp only [Act.put, List.setIfInBounds_toArray, List.set_cons_zero, List.set_cons_succ]
        refine rtakeF (i := 2) (d := (some 33)) (v := ?_) (n := 40) rfl (by kernel_rfl) (by kernel_rfl) (by kernel_rfl) (by kernel_rfl) (by kernel_rfl) (by kernel_rfl) (fun _ _ _ h => h) (by kernel_rfl) (by assumption) ?_ ?_
        rotate_left 1
        · (intro wI hSI; (try dsimp only at hSI); go_simp; (try with_reducible rfl))
        simp only [Act.put, List.setIfInBounds_toArray, List.set_cons_zero, List.set_cons_succ]
        refine rtakeF (i := 3) (d := (some 34)) (v := ?_) (n := 40) rfl (by kernel_rfl) (by kernel_rfl) (by kernel_rfl) (by kernel_rfl) (by kernel_rfl) (by kernel_rfl) (fun _ _ _ h => h) (by kernel_rfl) (by assumption) ?_ ?_
        rotate_left 1
        · (intro wI hSI; (try dsimp only at hSI); go_simp; (try with_reducible rfl))
        simp only [Act.put, List.setIfInBounds_toArray, List.set_cons_zero, List.set_cons_succ]
        refine rtakeF (i := 4) (d := (some 35)) (v := ?_) (n := 40) rfl (by kernel_rfl) (by kernel_rfl) (by kernel_rfl) (by kernel_rfl) (by kernel_rfl) (by kernel_rfl) (fun _ _ _ h => h) (by kernel_rfl) (by assumption) ?_ ?_
        rotate_left 1
        · (intro wI hSI; (try dsimp only at hSI); go_simp; (try with_reducible rfl))
        simp only [Act.put, List.setIfInBounds_toArray, List.set_cons_zero, List.set_cons_succ]
        refine rtakeF (i := 5) (d := (some 36)) (v := ?_) (n := 40) rfl (by kernel_rfl) (by kernel_rfl) (by kernel_rfl) (by kernel_rfl) (by kernel_rfl) (by kernel_rfl) (fun _ _ _ h => h) (by kernel_rfl) (by assumption) ?_ ?_
        rotate_left 1
        · (intro wI hSI; (try dsimp only at hSI); go_simp; (try with_reducible rfl))
        simp only [Act.put, List.setIfInBounds_toArray, List.set_cons_zero, List.set_cons_succ]
        refine rtakeF (i := 6) (d := (some 37)) (v := ?_) (n := 40) rfl (by kernel_rfl) (by kernel_rfl) (by kernel_rfl) (by kernel_rfl) (by kernel_rfl) (by kernel_rfl) (fun _ _ _ h => h) (by kernel_rfl) (by assumption) ?_ ?_
        rotate_left 1
        · (intro wI hSI; (try dsimp only at hSI); go_simp; (try with_reducible rfl))
        simp only [Act.put, List.setIfInBounds_toArray, List.set_cons_zero, List.set_cons_succ]
        refine rtakeF (i := 7) (d := (some 38)) (v := ?_) (n := 40) rfl (by kernel_rfl) (by kernel_rfl) (by kernel_rfl) (by kernel_rfl) (by kernel_rfl) (by kernel_rfl) (fun _ _ _ h => h) (by kernel_rfl) (by assumption) ?_ ?_
        rotate_left 1
        · (intro wI hSI; (try dsimp only at hSI); go_simp; (try with_reducible rfl))
        simp only [Act.put, List.setIfInBounds_toArray, List.set_cons_zero, List.set_cons_succ]
        refine rcallF (i := 8) (d := (some 39)) (by kernel_rfl) rfl (by kernel_rfl) (fun K hK => ?_)
        go_simp
        go_at_call 56; refine (HWx.out _).mono ?_; rintro e w4 ⟨wa, wc, rfl, hb4⟩
        refine hK.out _ _ (.inr ?hS) (fun hHeld0 => ?_)
        case hS => exact ⟨cell_later hb4 hHeld.1, below_next hHeld.2 hb4⟩
        clear hK K
        have hHeld := hHeld0.resolve_left (by decide)
        simp only [Act.put, List.setIfInBounds_toArray, List.set_cons_zero, List.set_cons_succ]
        refine rtakeF (i := 9) (d := (some 40)) (v := ?_) (n := 40) rfl (by kernel_rfl) (by kernel_rfl) (by kernel_rfl) (by kernel_rfl) (by kernel_rfl) (by kernel_rfl) (fun _ _ _ h => h) (by kernel_rfl) (by assumption) ?_ ?_
        rotate_left 1
        · (intro wI hSI; (try dsimp only at hSI); go_simp; (try with_reducible rfl))
        simp only [Act.put, List.setIfInBounds_toArray, List.set_cons_zero, List.set_cons_succ]
        refine rtakeF (i := 10) (d := (some 41)) (v := ?_) (n := 40) rfl (by kernel_rfl) (by kernel_rfl) (by kernel_rfl) (by kernel_rfl) (by kernel_rfl) (by kernel_rfl) (fun _ _ _ h => h) (by kernel_rfl) (by assumption) ?_ ?_
        rotate_left 1
        · (intro wI hSI; (try dsimp only at hSI); go_simp; (try with_reducible rfl))
        simp only [Act.put, List.setIfInBounds_toArray, List.set_cons_zero, List.set_cons_succ]
        refine rtakeF (i := 11) (d := (some 42)) (v := ?_) (n := 40) rfl (by kernel_rfl) (by kernel_rfl) (by kernel_rfl) (by kernel_rfl) (by kernel_rfl) (by kernel_rfl) (fun _ _ _ h => h) (by kernel_rfl) (by assumption) ?_ ?_
        rotate_left 1
        · (intro wI hSI; (try dsimp only at hSI); go_simp; (try with_reducible rfl))
        simp only [Act.put, List.setIfInBounds_toArray, List.set_cons_zero, List.set_cons_succ]
        refine rtakeF (i := 12) (d := (some 43)) (v := ?_) (n := 40) rfl (by kernel_rfl) (by kernel_rfl) (by kernel_rfl) (by kernel_rfl) (by kernel_rfl) (by kernel_rfl) (fun _ _ _ h => h) (by kernel_rfl) (by assumption) ?_ ?_
        rotate_left 1
        · (intro wI hSI; (try dsimp only at hSI); go_simp; (try with_reducible rfl))
        simp only [Act.put, List.setIfInBounds_toArray, List.set_cons_zero, List.set_cons_succ]
        have hfr4 := Hfr.out _ hHeld.2
        have hc4 := hHeld.1
        refine rcallF (i := 13) (d := none) (by kernel_rfl) rfl (by kernel_rfl) (fun K hK => ?_)
        go_simp
        refine hK.out undef _ (.inl rfl) (fun _ => ?_)
        clear hK K
        simp only [Act.put, List.setIfInBounds_toArray, List.set_cons_zero, List.set_cons_succ]
        refine wpAnyF_done (by kernel_rfl) ?_ _
        have hown5 := Hput.out _ hHeld.2
        rw [show m * Cel.k Sect + 2 = m * 3 + 2 from rfl, Hset.out] at hown5
        have hb5 : Below W1.heap.size W1 (w4.setCell ⟨gb, m * 3 + 2, none⟩ (.int .i64 (z3 + (sn : Int)))) := (hb3A.trans (hHeld.2.mono hz3)).setCell (by show W1.heap.size ≤ gb; exact hg1) _
        rw [← Hq.out]
        clear hHeld hHeld0
        go_wp2_with fail
        go_roundg (l.length - (k + 1))
        case measure => have := hgk.out; omega
        case rel => exact ⟨k + 1, by go_num, by omega, rfl, by rw [HA2.out]; exact Hok2, by rw [HA2.out]; exact hown5, hb5⟩
  · obtain rfl : k = l.length := by omega
    rw [Hfin.out] at hown
    go_wp2_with fail
    go_ret
    exact ⟨_, rfl, hown.mono (by have := hb01.size; omega), below_next hb01 hb⟩
set_option maxRecDepth 100000 in
set_option maxHeartbeats 8000000 in
theorem sectionsOf_any (s : ByteArray) (w : World) (hE : Env w) (hs : s.size ≤ 100000) : Calls Tryz.prog 23 #[.string s] w (GivesOwn 54 (secsL (lineL s)) w) := by
  have HS := Lib.hid (linesOf_any s w hE hs)
  have hll : (lineL s).length ≤ 100001 := by have := cutB_len 10 s; unfold lineL; rw [List.length_dropLast]; omega
  have Hsz : Hid (∀ x ∈ lineL s, x.size ≤ 100000) := fun x hx => by have := cutB_sizes 10 s x ((List.dropLast_sublist _).subset hx); omega
  have HH : Hid (∀ x W, Below w.heap.size w W → x.size ≤ 100000 → Calls Tryz.prog 75 #[.string x] W (Gives (.tuple #[.int .i64 (((headE x.data.toList).1 : Nat) : Int), .string (titleB x.data.toList)]) W)) := fun x W hb h => headOf_any x W (hE.below hb) h
  have HW : Hid (∀ x W, x.size ≤ 100000 → Calls Tryz.prog 10 #[.string x] W (fun e w' => ∃ a c, e = .returned (.slice a (spots x).length c) ∧ Below W.heap.size W w')) := fun x W h => (wordsOfR_any x W (by omega)).mono fun e w' ⟨v, he, hown, hb⟩ => by
    obtain ⟨a, c, rfl, -, -, -⟩ := hown.sa
    refine ⟨a, c, ?_, hb⟩
    rw [he]; unfold wordsS; rw [List.length_map]
  generalize lineL s = l at *
  have Hfin : Hid (secsL (l.take l.length) = secsL l) := by show _ = _; rw [List.take_length]
  go_enter Tryz.func23, Tryz.ntmps23
  go_wp2_with fail
  refine HS.out.mono ?_
  rintro e W1 ⟨b, cap, rfl, hsa, hb01⟩
  clear HS
  go_wp2_with fail
  go_loopg [3, 11] l.length (fun gk v i wr => ∃ k : Nat, i = .int .i64 k ∧ k ≤ l.length ∧ Hid (gk = l.length - k) ∧ Hid (∀ y ∈ secsL (l.take k), SecOk ((k : Int) * 100001) y) ∧ Own W1.heap.size 54 wr v (secsL (l.take k)) ∧ Below W1.heap.size W1 wr)
  case atStart => exact ⟨0, rfl, by omega, rfl, fun y hy => (by cases hy), Own.nil _ _ _, Below.refl _ _⟩
  obtain ⟨k, rfl, hk, hgk, hok, hown, hb⟩ := hrel
  have hzr := hb.size
  by_cases hlt : k < l.length
  · obtain ⟨qb, qoff, hqa, d0⟩ := (hsa.below hb).str hlt
    have hsz := Hsz.out l[k] (List.getElem_mem hlt)
    have HSt := Lib.hid (secsL_take hlt)
    have hal := secsL_length (l.take k)
    rw [List.length_take] at hal
    have Hok2 := Lib.hid (secS_ok (N := (k : Int) * 100001) (M := ((k + 1 : Nat) : Int) * 100001) (acc := secsL (l.take k)) (s := l[k]) (by omega) (by have := spots_len l[k]; omega) hok.out)
    have Hq := Lib.hid hqa
    rw [hqa]
    clear hqa
    generalize l[k] = x at *
    obtain ⟨acc2, ha2⟩ : ∃ a, secsL (l.take (k + 1)) = a := ⟨_, rfl⟩
    rw [ha2] at HSt
    have HA2 := Lib.hid ha2
    clear ha2
    generalize secsL (l.take k) = acc at *
    replace Hok2 : Hid (∀ y ∈ acc2, SecOk (((k + 1 : Nat) : Int) * 100001) y) := by rw [HSt.out]; exact Hok2
    have hk1 : (0 : Int) ≤ (k : Int) := by omega
    have hk2 : (k : Int) < (l.length : Int) := by omega
    have HHx := Lib.hid (HH.out x wr (hb01.trans (hb.mono hb01.size)) hsz)
    have HWx := Lib.hid (fun W => HW.out x W hsz)
    have hsp := spots_len x
    have htE : Hid (titleB x.data.toList = ⟨(headE x.data.toList).2.toArray⟩) := rfl
    unfold secS at HSt
    generalize titleB x.data.toList = tt at *
    rw [← htE.out] at HSt
    generalize (headE x.data.toList).1 = n at *
    generalize (spots x).length = sn at *
    go_wp2_with fail
    refine HHx.out.mono ?_
    rintro e w3 ⟨rfl, hb3⟩
    have hb3A := below_next hb hb3
    have hz3 := hb3A.size
    have hown3 := hown.below hb3
    clear hown HHx
    by_cases hn : 0 < n
    · rw [if_pos hn] at HSt
      have hd : decide ((0 : Int) < (n : Int)) = true := by simp; omega
      have hownA := hown3.alloc (.cells #[.int .i64 n, .string tt, .int .i64 0] 54)
      have hbo := Box.new w3 54 #[.int .i64 n, .string tt, .int .i64 0]
      have hba : Below W1.heap.size W1 (w3.alloc (.cells #[.int .i64 n, .string tt, .int .i64 0] 54)) := by (repeat' (first | exact Below.refl _ _ | assumption | refine Below.setCell ?_ ?_ _ | refine below_drewN ?_ _ | refine Below.drew ?_ | refine Below.alloc ?_ ?_ _ | (with_reducible refine Below.trans ?_ (Below.mono hb ?_)) | (with_reducible refine Below.trans ?_ (Below.mono hb0 ?_)) | (with_reducible refine Below.trans ?_ (Below.mono hb1 ?_)) | (with_reducible refine Below.trans ?_ (Below.mono hb2 ?_)) | (with_reducible refine Below.trans ?_ (Below.mono hb3 ?_)) | (with_reducible refine Below.trans ?_ (Below.mono hb4 ?_)) | (with_reducible refine Below.trans ?_ (Below.mono hb5 ?_)) | (with_reducible refine Below.trans ?_ (Below.mono hb6 ?_)) | (with_reducible refine Below.trans ?_ (Below.mono hb7 ?_)) | (with_reducible refine Below.trans ?_ (Below.mono hb8 ?_)) | (with_reducible refine Below.trans ?_ (Below.mono hb9 ?_)) | (with_reducible refine Below.trans ?_ (Below.mono hb10 ?_)) | (with_reducible refine Below.trans ?_ (Below.mono hb11 ?_)) | (with_reducible refine Below.trans ?_ (Below.mono hb12 ?_)) | (with_reducible refine Below.trans ?_ (Below.mono hb13 ?_)) | (with_reducible refine Below.trans ?_ (Below.mono hb14 ?_)) | (with_reducible refine Below.trans ?_ (Below.mono hb15 ?_)) | omega | (simp; done) | (simp; omega)))
      have Hol := Lib.hid hown3.lt
      have hn' : (0 : Int) < (n : Int) := by omega
      clear hown3
      go_wp2_with (at_builtin; refine wpList_append_lie (α := Sect) rfl _ _ 37 rfl 54 32 (.agg #[.int .i64 0, .string ⟨#[]⟩, .int .i64 0]) Tryz.underlying37 Tryz.infoSect rfl _ acc rfl hownA ((n : Int), tt, 0) _ rfl hbo (by omega) (by omega) (by simp; omega) ?_; intro g9 cap9 w9 hown9 hg9 hat9)
      have hb9 := hba.grown hg9 (by simp; omega) (fun j hj => (Hol.out j hj).1)
      rw [← HSt.out] at hown9
      rw [← Hq.out]
      (try go_wp2_with fail)
      go_roundg (l.length - (k + 1))
      case measure => have := hgk.out; omega
      case rel => exact ⟨k + 1, by go_num, by omega, rfl, by rw [HA2.out]; exact Hok2, by rw [HA2.out]; exact hown9, hb9⟩
    · rw [if_neg hn] at HSt
      obtain rfl : n = 0 := by omega
      clear hn
      rcases List.eq_nil_or_concat acc with rfl | ⟨ini, z, rfl⟩
      · have hq : acc2 = [] := HSt.out
        subst hq
        obtain ⟨oa, ocap, rfl, -, -, -⟩ := hown3.form
        go_wp2_with fail
        rw [← Hq.out]
        go_roundg (l.length - (k + 1))
        case measure => have := hgk.out; omega
        case rel => exact ⟨k + 1, by go_num, by omega, rfl, by rw [HA2.out]; exact Hok2, by rw [HA2.out]; exact hown3, hb3A⟩
      · rw [List.concat_eq_append] at *
        rw [bumpL_snoc] at HSt
        obtain ⟨zk1, zk2, zk3, zk4⟩ := hok.out z (by simp)
        have hown3L := hown3.lt
        obtain ⟨oa, ocap, rfl, hsa3, hf, hcap3⟩ := hown3.form
        have hmi : ini.length < (ini ++ [z]).length := by simp
        have hmz : (ini ++ [z])[ini.length] = z := by simp
        obtain ⟨gb, goff, hgo, c0, c1, c2⟩ := hsa3.sect hmi
        rcases hf with rfl | ⟨g, rfl, hg1, hg2⟩
        · cases hgo
        cases hgo
        rw [hmz, Nat.zero_add] at c2
        obtain ⟨cr, hbxo⟩ := hown3.box
        have hput := fun W (hW : Below w3.heap.size w3 W) => (hown3.below hW).put ini.length 2 (z.1, z.2.1, z.2.2 + (sn : Int)) (.int .i64 (z.2.2 + (sn : Int))) hmi (by decide) (by rw [hmz]; rfl)
        have Hset : Hid ((ini ++ [z]).set ini.length (z.1, z.2.1, z.2.2 + (sn : Int)) = acc2) := by show _ = _; rw [HSt.out, List.set_append_right _ _ (Nat.le_refl _), Nat.sub_self]; rfl
        have Hput := Lib.hid hput
        obtain ⟨z1, z2, z3⟩ := z
        simp only at zk1 zk2 zk3 zk4 c2 Hput Hset
        have hml : (ini ++ [(z1, z2, z3)]).length = ini.length + 1 := by simp
        rw [hml] at hal hcap3 Hput ⊢
        generalize ini.length = m at *
        have hw1 : IntKind.i64.wrap (((m + 1 : Nat) : Int) - 1) = (m : Int) := by rw [IntWalk.i64_in _ (by omega)]; omega
        have hw1' : IntKind.i64.wrap (((m : Int) + 1) - 1) = (m : Int) := by rw [IntWalk.i64_in _ (by omega)]; omega
        have hw0 : IntKind.i64.wrap (m : Int) = (m : Int) := IntWalk.i64_in _ (by omega)
        have hw2 : IntKind.i64.wrap (z3 + (sn : Int)) = z3 + (sn : Int) := IntWalk.i64_in _ (by omega)
        have hm1 : (0 : Int) ≤ (m : Int) := by omega
        have hm2 : (m : Int) < (m : Int) + 1 := by omega
        have hfr := fun W (hW : Below w3.heap.size w3 W) => (hbxo.below hW).frozen (m * 3 + 2)
        have Hfr := Lib.hid hfr
        have Hol := Lib.hid hown3L
        clear hput hfr hown3 hsa3 hbxo c0 c1 hmi hmz hown3L hml
        go_upto_region 9 with (fail)
        refine wp_regionF (S := (fun wx => wx.cell? ⟨gb, m * 3 + 2, none⟩ = some (.int .i64 z3) ∧ Below w3.heap.size w3 wx)) 13 (by kernel_rfl) ?hS (fun hHeld => ?_)
        case hS => exact ⟨c2, (Below.refl _ _).drew⟩
        refine rtakeF (i := 0) (d := (some 31)) (v := ?_) (n := 40) rfl (by kernel_rfl) (by kernel_rfl) (by kernel_rfl) (by kernel_rfl) (by kernel_rfl) (by kernel_rfl) (fun _ _ _ h => h) (by kernel_rfl) (by assumption) ?_ ?_
        rotate_left 1
        · (intro wI hSI; (try dsimp only at hSI); go_simp; (try with_reducible rfl))
        simp only [Act.put, List.setIfInBounds_toArray, List.set_cons_zero, List.set_cons_succ]
        refine rtakeF (i := 1) (d := (some 32)) (v := ?_) (n := 40) rfl (by kernel_rfl) (by kernel_rfl) (by kernel_rfl) (by kernel_rfl) (by kernel_rfl) (by kernel_rfl) (fun _ _ _ h => h) (by kernel_rfl) (by assumption) ?_ ?_
        rotate_left 1
        · (intro wI hSI; (try dsimp only at hSI); go_simp; (try with_reducible rfl))
        simp only [Act.put, List.setIfInBounds_toArray, List.set_cons_zero, List.set_cons_succ]
        refine rtakeF (i := 2) (d := (some 33)) (v := ?_) (n := 40) rfl (by kernel_rfl) (by kernel_rfl) (by kernel_rfl) (by kernel_rfl) (by kernel_rfl) (by kernel_rfl) (fun _ _ _ h => h) (by kernel_rfl) (by assumption) ?_ ?_
        rotate_left 1
        · (intro wI hSI; (try dsimp only at hSI); go_simp; (try with_reducible rfl))
        simp only [Act.put, List.setIfInBounds_toArray, List.set_cons_zero, List.set_cons_succ]
        refine rtakeF (i := 3) (d := (some 34)) (v := ?_) (n := 40) rfl (by kernel_rfl) (by kernel_rfl) (by kernel_rfl) (by kernel_rfl) (by kernel_rfl) (by kernel_rfl) (fun _ _ _ h => h) (by kernel_rfl) (by assumption) ?_ ?_
        rotate_left 1
        · (intro wI hSI; (try dsimp only at hSI); go_simp; (try with_reducible rfl))
        simp only [Act.put, List.setIfInBounds_toArray, List.set_cons_zero, List.set_cons_succ]
        refine rtakeF (i := 4) (d := (some 35)) (v := ?_) (n := 40) rfl (by kernel_rfl) (by kernel_rfl) (by kernel_rfl) (by kernel_rfl) (by kernel_rfl) (by kernel_rfl) (fun _ _ _ h => h) (by kernel_rfl) (by assumption) ?_ ?_
        rotate_left 1
        · (intro wI hSI; (try dsimp only at hSI); go_simp; (try with_reducible rfl))
        simp only [Act.put, List.setIfInBounds_toArray, List.set_cons_zero, List.set_cons_succ]
        refine rtakeF (i := 5) (d := (some 36)) (v := ?_) (n := 40) rfl (by kernel_rfl) (by kernel_rfl) (by kernel_rfl) (by kernel_rfl) (by kernel_rfl) (by kernel_rfl) (fun _ _ _ h => h) (by kernel_rfl) (by assumption) ?_ ?_
        rotate_left 1
        · (intro wI hSI; (try dsimp only at hSI); go_simp; (try with_reducible rfl))
        simp only [Act.put, List.setIfInBounds_toArray, List.set_cons_zero, List.set_cons_succ]
        refine rtakeF (i := 6) (d := (some 37)) (v := ?_) (n := 40) rfl (by kernel_rfl) (by kernel_rfl) (by kernel_rfl) (by kernel_rfl) (by kernel_rfl) (by kernel_rfl) (fun _ _ _ h => h) (by kernel_rfl) (by assumption) ?_ ?_
        rotate_left 1
        · (intro wI hSI; (try dsimp only at hSI); go_simp; (try with_reducible rfl))
        simp only [Act.put, List.setIfInBounds_toArray, List.set_cons_zero, List.set_cons_succ]
        refine rtakeF (i := 7) (d := (some 38)) (v := ?_) (n := 40) rfl (by kernel_rfl) (by kernel_rfl) (by kernel_rfl) (by kernel_rfl) (by kernel_rfl) (by kernel_rfl) (fun _ _ _ h => h) (by kernel_rfl) (by assumption) ?_ ?_
        rotate_left 1
        · (intro wI hSI; (try dsimp only at hSI); go_simp; (try with_reducible rfl))
        simp only [Act.put, List.setIfInBounds_toArray, List.set_cons_zero, List.set_cons_succ]
        refine rcallF (i := 8) (d := (some 39)) (by kernel_rfl) rfl (by kernel_rfl) (fun K hK => ?_)
        go_simp
        go_at_call 10; refine (HWx.out _).mono ?_; rintro e w4 ⟨wa, wc, rfl, hb4⟩
        refine hK.out _ _ (.inr ?hS) (fun hHeld0 => ?_)
        case hS => exact ⟨cell_later hb4 hHeld.1, below_next hHeld.2 hb4⟩
        clear hK K
        have hHeld := hHeld0.resolve_left (by decide)
        simp only [Act.put, List.setIfInBounds_toArray, List.set_cons_zero, List.set_cons_succ]
        refine rtakeF (i := 9) (d := (some 40)) (v := ?_) (n := 40) rfl (by kernel_rfl) (by kernel_rfl) (by kernel_rfl) (by kernel_rfl) (by kernel_rfl) (by kernel_rfl) (fun _ _ _ h => h) (by kernel_rfl) (by assumption) ?_ ?_
        rotate_left 1
        · (intro wI hSI; (try dsimp only at hSI); go_simp; (try with_reducible rfl))
        simp only [Act.put, List.setIfInBounds_toArray, List.set_cons_zero, List.set_cons_succ]
        refine rtakeF (i := 10) (d := (some 41)) (v := ?_) (n := 40) rfl (by kernel_rfl) (by kernel_rfl) (by kernel_rfl) (by kernel_rfl) (by kernel_rfl) (by kernel_rfl) (fun _ _ _ h => h) (by kernel_rfl) (by assumption) ?_ ?_
        rotate_left 1
        · (intro wI hSI; (try dsimp only at hSI); go_simp; (try with_reducible rfl))
        simp only [Act.put, List.setIfInBounds_toArray, List.set_cons_zero, List.set_cons_succ]
        refine rtakeF (i := 11) (d := (some 42)) (v := ?_) (n := 40) rfl (by kernel_rfl) (by kernel_rfl) (by kernel_rfl) (by kernel_rfl) (by kernel_rfl) (by kernel_rfl) (fun _ _ _ h => h) (by kernel_rfl) (by assumption) ?_ ?_
        rotate_left 1
        · (intro wI hSI; (try dsimp only at hSI); go_simp; (try with_reducible rfl))
        simp only [Act.put, List.setIfInBounds_toArray, List.set_cons_zero, List.set_cons_succ]
        refine rtakeF (i := 12) (d := (some 43)) (v := ?_) (n := 40) rfl (by kernel_rfl) (by kernel_rfl) (by kernel_rfl) (by kernel_rfl) (by kernel_rfl) (by kernel_rfl) (fun _ _ _ h => h) (by kernel_rfl) (by assumption) ?_ ?_
        rotate_left 1
        · (intro wI hSI; (try dsimp only at hSI); go_simp; (try with_reducible rfl))
        simp only [Act.put, List.setIfInBounds_toArray, List.set_cons_zero, List.set_cons_succ]
        have hfr4 := Hfr.out _ hHeld.2
        have hc4 := hHeld.1
        refine rcallF (i := 13) (d := none) (by kernel_rfl) rfl (by kernel_rfl) (fun K hK => ?_)
        go_simp
        refine hK.out undef _ (.inl rfl) (fun _ => ?_)
        clear hK K
        simp only [Act.put, List.setIfInBounds_toArray, List.set_cons_zero, List.set_cons_succ]
        refine wpAnyF_done (by kernel_rfl) ?_ _
        have hown5 := Hput.out _ hHeld.2
        rw [show m * Cel.k Sect + 2 = m * 3 + 2 from rfl, Hset.out] at hown5
        have hb5 : Below W1.heap.size W1 (w4.setCell ⟨gb, m * 3 + 2, none⟩ (.int .i64 (z3 + (sn : Int)))) := (hb3A.trans (hHeld.2.mono hz3)).setCell (by show W1.heap.size ≤ gb; exact hg1) _
        rw [← Hq.out]
        clear hHeld hHeld0
        go_wp2_with fail
        go_roundg (l.length - (k + 1))
        case measure => have := hgk.out; omega
        case rel => exact ⟨k + 1, by go_num, by omega, rfl, by rw [HA2.out]; exact Hok2, by rw [HA2.out]; exact hown5, hb5⟩
  · obtain rfl : k = l.length := by omega
    rw [Hfin.out] at hown
    go_wp2_with fail
    go_ret
    exact ⟨_, rfl, hown.mono (by have := hb01.size; omega), below_next hb01 hb⟩
set_option maxHeartbeats 4000000 in
theorem sectionsE_any (s : ByteArray) (w : World) (hE : Env w) (hs : s.size ≤ 100000) : Calls Tryz.prog 14 #[.string s] w (fun e w' => Below w.heap.size w w' ∧ ((bodyE s ≠ 0 ∧ e = .returned (.tuple #[.slice none 0 0, .int .i64 (bodyE s)])) ∨ (bodyE s = 0 ∧ ∃ a c, e = .returned (.tuple #[.slice a (secsL (cutB 10 s)).length c, .int .i64 0]) ∧ SA w' a (secsL (cutB 10 s))))) := by
  have HB := Lib.hid (textFault_any s w hE (by omega))
  have HF := Lib.hid (fun W h => sections_any s W h hs)
  generalize bodyE s = er at *
  generalize secsL (cutB 10 s) = l at *
  by_cases h0 : er = 0
  · subst h0
    go_enter Tryz.func14, Tryz.ntmps14
    go_wp2_with fail
    refine HB.out.mono ?_
    rintro e w1 ⟨rfl, hb1⟩
    go_wp2_with fail
    refine (HF.out _ (hE.below hb1)).mono ?_
    rintro e w2 ⟨v2, rfl, hown2, hb2⟩
    obtain ⟨oa, oc, rfl, hsa, -, -⟩ := hown2.sa
    clear hown2
    go_wp2_with fail
    go_ret2
    exact ⟨below_next hb1 hb2, .inr ⟨trivial, oa, oc, rfl, hsa⟩⟩
  · have hq : (er != 0) = true := by simpa using h0
    have H0 := Lib.hid h0
    clear h0
    go_enter Tryz.func14, Tryz.ntmps14
    go_wp2_with fail
    refine HB.out.mono ?_
    rintro e w1 ⟨rfl, hb1⟩
    go_wp2_with fail
    go_ret2
    exact ⟨hb1, .inl ⟨H0.out, rfl⟩⟩
end Go.Proofs.YtlpknpjfmacemaaGreatDoor
