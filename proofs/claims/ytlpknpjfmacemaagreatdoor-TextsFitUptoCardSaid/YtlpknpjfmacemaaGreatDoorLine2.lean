/- Texts: how long, and what begins a section. -/
import Derived.Test.YtlpknpjfmacemaaGreatDoorLine1
namespace Go.Proofs.YtlpknpjfmacemaaGreatDoor
open Go.RowKit
set_option linter.unusedVariables false
set_option linter.unusedSimpArgs false

def lineL (s : ByteArray) : List ByteArray := (cutB 10 s).dropLast
theorem trim_blank (s : ByteArray) : (⟨(Lib.trimB s.data.toList 32).toArray⟩ : ByteArray).toList.isEmpty = blankL 32 s.data.toList := by
  rw [isEmpty_size, ← trimB_blank, Bool.eq_iff_iff, decide_eq_true_eq, List.isEmpty_iff]
  show (Lib.trimB s.data.toList 32).toArray.size = 0 ↔ _
  simp
set_option maxRecDepth 100000 in
set_option maxHeartbeats 4000000 in
theorem filled_any (s : ByteArray) (w : World) (hE : Env w) (hs : s.size ≤ 100000) : Calls Tryz.prog 65 #[.string s] w (Gives (.int .i64 ((fillN (cutB 10 s) : Nat) : Int)) w) := by
  have HS := Lib.hid (split_any 10 s w hE (by omega))
  have hll : (cutB 10 s).length ≤ 100001 := by have := cutB_len 10 s; omega
  have Hsz : Hid (∀ x ∈ cutB 10 s, x.size ≤ 100000) := fun x hx => by have := cutB_sizes 10 s x hx; omega
  generalize cutB 10 s = l at *
  have Hfin : Hid (fillN (l.take l.length) = fillN l) := by show _ = _; rw [List.take_length]
  go_enter Tryz.func65, Tryz.ntmps65
  go_wp2_with fail
  refine HS.out.mono ?_
  rintro e W1 ⟨b, rfl, hown1, hb1⟩
  have hsa : SA W1 (some ⟨b, 0, none⟩) l := by obtain ⟨a', c', he, hh, _⟩ := hown1.sa; simp only [Value.slice.injEq] at he; rw [he.1]; exact hh
  clear HS hown1
  go_wp2_with fail
  go_loopg [3, 9] l.length (fun gk v i wr => ∃ k : Nat, v = .int .i64 ((fillN (l.take k) : Nat) : Int) ∧ i = .int .i64 k ∧ k ≤ l.length ∧ Hid (gk = l.length - k) ∧ Below W1.heap.size W1 wr)
  case atStart => exact ⟨0, rfl, rfl, by omega, rfl, Below.refl _ _⟩
  obtain ⟨k, rfl, rfl, hk, hgk, hb⟩ := hrel
  have hzr := hb.size
  by_cases hlt : k < l.length
  · obtain ⟨qb, qoff, hqa, d0⟩ := (hsa.below hb).str hlt
    have HSn := Lib.hid (fillN_snoc hlt)
    have hfl := fillN_le (l.take k)
    rw [List.length_take] at hfl
    have hsz := Hsz.out l[k] (List.getElem_mem hlt)
    have Hq := Lib.hid hqa
    rw [hqa]
    clear hqa
    generalize l[k] = x at *
    generalize fillN (l.take k) = n at *
    have hk1 : (0 : Int) ≤ (k : Int) := by omega
    have hk2 : (k : Int) < (l.length : Int) := by omega
    have hw : IntKind.i64.wrap ((n : Int) + 1) = (n : Int) + 1 := IntWalk.i64_in _ (by omega)
    have HTe := Lib.hid (trim_blank x); have HT := Lib.hid (fun W => trim1_any x W (by omega)); generalize (⟨(Lib.trimB x.data.toList 32).toArray⟩ : ByteArray) = t at *; go_wp2_with fail; refine (HT.out _).mono ?_; rintro e w2 ⟨rfl, n2, rfl⟩; have hb2 := below_drewN hb n2
    cases hbl : blankL 32 x.data.toList
    · rw [hbl] at HTe HSn
      have HS2 : Hid (fillN (l.take (k + 1)) = n + 1) := by show _ = _; rw [HSn.out]; rfl
      have hTe := HTe.out
      clear HSn hbl
      go_wp2_with fail
      rw [← Hq.out]
      go_roundg (l.length - (k + 1))
      case measure => have := hgk.out; omega
      case rel => exact ⟨k + 1, by rw [HS2.out]; go_num, by go_num, by omega, rfl, hb2⟩
    · rw [hbl] at HTe HSn
      have HS2 : Hid (fillN (l.take (k + 1)) = n) := by show _ = _; rw [HSn.out]; rfl
      have hTe := HTe.out
      clear HSn hbl
      go_wp2_with fail
      rw [← Hq.out]
      go_roundg (l.length - (k + 1))
      case measure => have := hgk.out; omega
      case rel => exact ⟨k + 1, by rw [HS2.out], by go_num, by omega, rfl, hb2⟩
  · obtain rfl : k = l.length := by omega
    rw [Hfin.out]
    go_wp2_with fail
    go_ret
    exact ⟨rfl, below_next hb1 hb⟩
theorem SA.dropLast {w : World} {a : Option Addr} {l : List ByteArray} (h : SA w a l) : SA w a l.dropLast := by
  rcases h with rfl | ⟨b, off, rfl, h⟩
  · exact .inl rfl
  · rw [List.dropLast_eq_take]
    exact .inr ⟨b, off, rfl, h.take _⟩
set_option maxHeartbeats 2000000 in
theorem linesOf_any (s : ByteArray) (w : World) (hE : Env w) (hs : s.size ≤ 100000) : Calls Tryz.prog 73 #[.string s] w (fun e w' => ∃ b cap, e = .returned (.slice (some ⟨b, 0, none⟩) (lineL s).length cap) ∧ SA w' (some ⟨b, 0, none⟩) (lineL s) ∧ Below w.heap.size w w') := by
  have HS := Lib.hid (split_any 10 s w hE (by omega))
  have hll : (cutB 10 s).length ≤ 100001 := by have := cutB_len 10 s; omega
  have hne : 1 ≤ (cutB 10 s).length := by unfold cutB; rw [List.length_map]; exact List.length_pos_iff.2 (cutL_ne _ _)
  have hlen : (lineL s).length = (cutB 10 s).length - 1 := by unfold lineL; exact List.length_dropLast
  have Hline : Hid (lineL s = (cutB 10 s).dropLast) := rfl
  generalize lineL s = m at *
  generalize cutB 10 s = l at *
  obtain ⟨n, hn⟩ : ∃ n, m.length = n := ⟨_, rfl⟩
  rw [hn] at hlen ⊢
  have hw : IntKind.i64.wrap ((l.length : Int) - 1) = (n : Int) := by rw [IntWalk.i64_in _ (by omega)]; omega
  have hn1 : (0 : Int) ≤ (n : Int) := by omega
  have hn2 : (n : Int) ≤ (l.length : Int) := by omega
  clear hlen hn
  go_enter Tryz.func73, Tryz.ntmps73
  go_wp2_with fail
  refine HS.out.mono ?_
  rintro e W1 ⟨b, rfl, hown1, hb1⟩
  have hsa : SA W1 (some ⟨b, 0, none⟩) l := by obtain ⟨a', c', he, hh, _⟩ := hown1.sa; simp only [Value.slice.injEq] at he; rw [he.1]; exact hh
  clear HS hown1
  go_wp2_with fail
  go_ret
  exact ⟨b, _, rfl, by rw [Hline.out]; exact hsa.dropLast, hb1⟩
set_option maxRecDepth 100000 in
set_option maxHeartbeats 4000000 in
theorem lengthOf_any (s : ByteArray) (w : World) (hE : Env w) (hs : s.size ≤ 100000) : Calls Tryz.prog 20 #[.string s] w (Gives (.tuple #[.int .i64 (((spots s).length : Nat) : Int), .int .i64 ((fillN (lineL s) : Nat) : Int)]) w) := by
  have HS := Lib.hid (linesOf_any s w hE hs)
  have HWo := Lib.hid (fun W => wordsOfR_any s W (by omega))
  have Hwl : Hid ((wordsS s).length = (spots s).length) := by show _ = _; unfold wordsS; rw [List.length_map]
  have hll : (lineL s).length ≤ 100001 := by have := cutB_len 10 s; unfold lineL; rw [List.length_dropLast]; omega
  have Hsz : Hid (∀ x ∈ lineL s, x.size ≤ 100000) := fun x hx => by have := cutB_sizes 10 s x ((List.dropLast_sublist _).subset hx); omega
  generalize lineL s = l at *
  generalize wordsS s = ws at *
  generalize (spots s).length = sn at *
  have Hfin : Hid (fillN (l.take l.length) = fillN l) := by show _ = _; rw [List.take_length]
  go_enter Tryz.func20, Tryz.ntmps20
  go_wp2_with fail
  refine HS.out.mono ?_
  rintro e W1 ⟨b, cap, rfl, hsa, hb1⟩
  have hE1 := hE.below hb1
  clear HS
  go_wp2_with fail
  go_loopg [4, 10] l.length (fun gk v i wr => ∃ k : Nat, v = .int .i64 ((fillN (l.take k) : Nat) : Int) ∧ i = .int .i64 k ∧ k ≤ l.length ∧ Hid (gk = l.length - k) ∧ Below W1.heap.size W1 wr)
  case atStart => exact ⟨0, rfl, rfl, by omega, rfl, Below.refl _ _⟩
  obtain ⟨k, rfl, rfl, hk, hgk, hb⟩ := hrel
  have hzr := hb.size
  by_cases hlt : k < l.length
  · obtain ⟨qb, qoff, hqa, d0⟩ := (hsa.below hb).str hlt
    have HSn := Lib.hid (fillN_snoc hlt)
    have hfl := fillN_le (l.take k)
    rw [List.length_take] at hfl
    have hsz := Hsz.out l[k] (List.getElem_mem hlt)
    have Hq := Lib.hid hqa
    rw [hqa]
    clear hqa
    generalize l[k] = x at *
    generalize fillN (l.take k) = n at *
    have hk1 : (0 : Int) ≤ (k : Int) := by omega
    have hk2 : (k : Int) < (l.length : Int) := by omega
    have hw : IntKind.i64.wrap ((n : Int) + 1) = (n : Int) + 1 := IntWalk.i64_in _ (by omega)
    have HT := Lib.hid (squeezed_any x wr (hE1.below hb) hsz); go_wp2_with fail; refine HT.out.mono ?_; rintro e w2 ⟨t, rfl, ht, hb2'⟩; have HTe := Lib.hid ((isEmpty_size t).trans ht); have hb2 := below_next hb hb2'; clear ht HT hb2'
    cases hbl : blankL 32 x.data.toList
    · rw [hbl] at HTe HSn
      have HS2 : Hid (fillN (l.take (k + 1)) = n + 1) := by show _ = _; rw [HSn.out]; rfl
      have hTe := HTe.out
      clear HSn hbl
      go_wp2_with fail
      rw [← Hq.out]
      go_roundg (l.length - (k + 1))
      case measure => have := hgk.out; omega
      case rel => exact ⟨k + 1, by rw [HS2.out]; go_num, by go_num, by omega, rfl, hb2⟩
    · rw [hbl] at HTe HSn
      have HS2 : Hid (fillN (l.take (k + 1)) = n) := by show _ = _; rw [HSn.out]; rfl
      have hTe := HTe.out
      clear HSn hbl
      go_wp2_with fail
      rw [← Hq.out]
      go_roundg (l.length - (k + 1))
      case measure => have := hgk.out; omega
      case rel => exact ⟨k + 1, by rw [HS2.out], by go_num, by omega, rfl, hb2⟩
  · obtain rfl : k = l.length := by omega
    rw [Hfin.out]
    generalize fillN l = fn at *
    go_wp2_with fail
    refine (HWo.out _).mono ?_
    rintro e w2 ⟨v2, rfl, hown2, hb2⟩
    obtain ⟨oa, oc, rfl, -, -, -⟩ := hown2.sa
    clear hown2
    go_wp2_with fail
    go_ret2
    exact ⟨by rw [Hwl.out] <;> rfl, below_next hb1 (below_next hb hb2)⟩
set_option maxHeartbeats 4000000 in
theorem length_any (s : ByteArray) (w : World) (hE : Env w) (hs : s.size ≤ 100000) : Calls Tryz.prog 13 #[.string s] w (fun e w' => Below w.heap.size w w' ∧ ((bodyE s ≠ 0 ∧ e = .returned (.tuple #[.int .i64 0, .int .i64 0, .int .i64 (bodyE s)])) ∨ (bodyE s = 0 ∧ e = .returned (.tuple #[.int .i64 (((spots s).length : Nat) : Int), .int .i64 ((fillN (cutB 10 s) : Nat) : Int), .int .i64 0])))) := by
  have HB := Lib.hid (textFault_any s w hE (by omega))
  have HWo := Lib.hid (fun W => wordsOf_any s W (by omega))
  have HF := Lib.hid (fun W h => filled_any s W h hs)
  have Hwl : Hid ((wordsT s).length = (spots s).length) := by show _ = _; unfold wordsT; rw [List.length_map]
  generalize bodyE s = er at *
  generalize wordsT s = ws at *
  generalize (spots s).length = sn at *
  generalize fillN (cutB 10 s) = fn at *
  by_cases h0 : er = 0
  · subst h0
    go_enter Tryz.func13, Tryz.ntmps13
    go_wp2_with fail
    refine HB.out.mono ?_
    rintro e w1 ⟨rfl, hb1⟩
    go_wp2_with fail
    refine (HWo.out _).mono ?_
    rintro e w2 ⟨v2, rfl, hown2, hb2⟩
    obtain ⟨oa, oc, rfl, -, -, -⟩ := hown2.sa
    have hb12 := below_next hb1 hb2
    clear hown2
    go_wp2_with fail
    refine (HF.out _ (hE.below hb12)).mono ?_
    rintro e w3 ⟨rfl, hb3⟩
    go_wp2_with fail
    go_ret3
    exact ⟨below_next hb12 hb3, .inr ⟨trivial, by rw [Hwl.out] <;> rfl⟩⟩
  · have hq : (er != 0) = true := by simpa using h0
    have H0 := Lib.hid h0
    clear h0
    go_enter Tryz.func13, Tryz.ntmps13
    go_wp2_with fail
    refine HB.out.mono ?_
    rintro e w1 ⟨rfl, hb1⟩
    go_wp2_with fail
    go_ret3
    exact ⟨hb1, .inl ⟨H0.out, rfl⟩⟩
end Go.Proofs.YtlpknpjfmacemaaGreatDoor
