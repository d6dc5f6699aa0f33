/- Words of strings: the reference. -/
import Derived.Test.YthajoedabjfaaaaGreatDoorWord1
import Derived.Test.YthajoedabjfaaaaGreatDoorShelf
namespace Go.Proofs.YthajoedabjfaaaaGreatDoor
open Go.RowKit
set_option linter.unusedVariables false
set_option linter.unusedSimpArgs false

theorem idx_word : ∀ n : Nat, n < 128 → decide (0 ≤ Lib.indexByte (⟨#[97, 98, 99, 100, 101, 102, 103, 104, 105, 106, 107, 108, 109, 110, 111, 112, 113, 114, 115, 116, 117, 118, 119, 120, 121, 122, 65, 66, 67, 68, 69, 70, 71, 72, 73, 74, 75, 76, 77, 78, 79, 80, 81, 82, 83, 84, 85, 86, 87, 88, 89, 90, 48, 49, 50, 51, 52, 53, 54, 55, 56, 57]⟩ : ByteArray).data.toList n.toUInt8) = wordC n := by decide +kernel
theorem idx_cap : ∀ n : Nat, n < 256 → Lib.indexByte (⟨#[65, 66, 67, 68, 69, 70, 71, 72, 73, 74, 75, 76, 77, 78, 79, 80, 81, 82, 83, 84, 85, 86, 87, 88, 89, 90]⟩ : ByteArray).data.toList n.toUInt8 = if 65 ≤ n ∧ n ≤ 90 then (n : Int) - 65 else -1 := by decide +kernel
theorem small_at0 : ∀ m : Fin 26, ((⟨#[97, 98, 99, 100, 101, 102, 103, 104, 105, 106, 107, 108, 109, 110, 111, 112, 113, 114, 115, 116, 117, 118, 119, 120, 121, 122]⟩ : ByteArray)[m.val]'(m.isLt)).toNat = m.val + 97 := by decide +kernel
theorem small_at (m : Nat) (h : m < (⟨#[97, 98, 99, 100, 101, 102, 103, 104, 105, 106, 107, 108, 109, 110, 111, 112, 113, 114, 115, 116, 117, 118, 119, 120, 121, 122]⟩ : ByteArray).size) : (((⟨#[97, 98, 99, 100, 101, 102, 103, 104, 105, 106, 107, 108, 109, 110, 111, 112, 113, 114, 115, 116, 117, 118, 119, 120, 121, 122]⟩ : ByteArray)[m].toNat : Nat) : Int) = (m : Int) + 97 := by
  have := small_at0 ⟨m, h⟩
  simp only at this
  omega
theorem wordC_high {n : Nat} (h : 128 ≤ n) : wordC n = true := decide_eq_true (by omega)
set_option maxHeartbeats 2000000 in
theorem wordByte_any (c : Nat) (w : World) (hc : c < 256) : Calls Tryz.prog 62 #[.int .u8 (c : Int)] w (fun e w' => e = .returned (.bool (wordC c)) ∧ w' = w) := by
  by_cases h : 128 ≤ c
  · have HV := Lib.hid (wordC_high h)
    have hd : decide ((128 : Int) ≤ (c : Int)) = true := by simp; omega
    generalize wordC c = v at *
    go_enter Tryz.func62, Tryz.ntmps62
    go_wp2_with fail
    go_ret
    exact ⟨by rw [HV.out] <;> rfl, rfl⟩
  · have HV := Lib.hid (idx_word c (by omega))
    have HI := Lib.hid (fun W => Tryz.strings_IndexByte ⟨#[97, 98, 99, 100, 101, 102, 103, 104, 105, 106, 107, 108, 109, 110, 111, 112, 113, 114, 115, 116, 117, 118, 119, 120, 121, 122, 65, 66, 67, 68, 69, 70, 71, 72, 73, 74, 75, 76, 77, 78, 79, 80, 81, 82, 83, 84, 85, 86, 87, 88, 89, 90, 48, 49, 50, 51, 52, 53, 54, 55, 56, 57]⟩ (c : Int) W)
    rw [Int.toNat_natCast] at HI
    have hd : decide ((128 : Int) ≤ (c : Int)) = false := by simp; omega
    generalize Lib.indexByte (⟨#[97, 98, 99, 100, 101, 102, 103, 104, 105, 106, 107, 108, 109, 110, 111, 112, 113, 114, 115, 116, 117, 118, 119, 120, 121, 122, 65, 66, 67, 68, 69, 70, 71, 72, 73, 74, 75, 76, 77, 78, 79, 80, 81, 82, 83, 84, 85, 86, 87, 88, 89, 90, 48, 49, 50, 51, 52, 53, 54, 55, 56, 57]⟩ : ByteArray).data.toList c.toUInt8 = ix at *
    generalize wordC c = v at *
    go_enter Tryz.func62, Tryz.ntmps62
    go_wp2_with fail
    refine (HI.out _).mono ?_
    rintro e w2 ⟨rfl, rfl⟩
    go_wp2_with fail
    go_ret
    exact ⟨by rw [← HV.out] <;> rfl, rfl⟩
set_option maxHeartbeats 4000000 in
theorem lowerR_any (s : ByteArray) (w : World) (hs : s.size ≤ 1000000000) : Calls Tryz.prog 73 #[.string s] w (Gives (.string (lowS s)) w) := by
  have hcv := Lib.run_convert_string_bytes (P := Tryz.prog) w 9 81 5 s (u := .string) Tryz.underlying9 Tryz.underlying81 Tryz.underlying5
  have hbb := bytesWorld_below w 5 s
  have hraw := Raw.bytes w 5 s
  have hsl : s.data.toList.length = s.size := by simp
  generalize Lib.bytesWorld w 5 s = wb at *
  generalize grownCap w s.size 0 5 = cp at *
  have Hsl := Lib.hid hsl
  clear hsl
  go_enter Tryz.func73, Tryz.ntmps73
  go_wp2_with fail
  clear hcv
  go_loopg [11] s.size (fun gk i wr => ∃ k : Nat, i = .int .i64 k ∧ k ≤ s.size ∧ Hid (gk = s.size - k) ∧ Raw wr w.heap.size (lowTo s.data.toList k) ∧ Below w.heap.size w wr)
  case atStart => exact ⟨0, rfl, by omega, rfl, by rw [lowTo_zero]; exact hraw, hbb⟩
  clear hraw hbb
  obtain ⟨k, rfl, hk, hgk, hraw, hb⟩ := hrel
  have hzr := hb.size
  by_cases hlt : k < s.size
  · have hkl : k < s.data.toList.length := by rw [Hsl.out]; exact hlt
    have hkl' : k < (lowTo s.data.toList k).length := by rw [lowTo_length]; exact hkl
    have hc := hraw.cell hkl'
    rw [lowTo_at hkl hkl'] at hc
    have hfr := hraw.frozen hkl'
    have Hsucc := Lib.hid (lowTo_succ hkl)
    have Hkeep := Lib.hid (lowTo_keep hkl)
    have Hlow1 := Lib.hid (@lowU_yes s.data.toList[k])
    have hset := hraw.set k (lowU s.data.toList[k])
    generalize lowU s.data.toList[k] = lu at *
    generalize s.data.toList[k] = x at *
    have hx := x.toNat_lt
    generalize hxn : x.toNat = n at *
    clear hxn
    have HI := Lib.hid (fun W => Tryz.strings_IndexByte ⟨#[65, 66, 67, 68, 69, 70, 71, 72, 73, 74, 75, 76, 77, 78, 79, 80, 81, 82, 83, 84, 85, 86, 87, 88, 89, 90]⟩ (n : Int) W)
    rw [Int.toNat_natCast, idx_cap n (by omega)] at HI
    have hk1 : (0 : Int) ≤ (k : Int) := by omega
    have hk2 : (k : Int) < (s.size : Int) := by omega
    by_cases hup : 65 ≤ n ∧ n ≤ 90
    · rw [if_pos hup] at HI
      obtain ⟨m, rfl⟩ : ∃ m, n = m + 65 := ⟨n - 65, by omega⟩
      have hm : m < 26 := by omega
      rw [show (((m + 65 : Nat) : Int) - 65) = (m : Int) by omega] at HI
      have hlu : (lu.toNat : Int) = (m : Int) + 97 := by rw [Hlow1.out hup.1 hup.2]; omega
      rw [hlu, ← Hsucc.out] at hset
      have hb2 : Below w.heap.size w (wr.setCell ⟨w.heap.size, k, none⟩ (.int .u8 ((m : Int) + 97))) := by (repeat' (first | exact Below.refl _ _ | assumption | refine Below.setCell ?_ ?_ _ | refine below_drewN ?_ _ | refine Below.drew ?_ | refine Below.alloc ?_ ?_ _ | (with_reducible refine Below.trans ?_ (Below.mono hb ?_)) | (with_reducible refine Below.trans ?_ (Below.mono hb0 ?_)) | (with_reducible refine Below.trans ?_ (Below.mono hb1 ?_)) | (with_reducible refine Below.trans ?_ (Below.mono hb2 ?_)) | (with_reducible refine Below.trans ?_ (Below.mono hb3 ?_)) | (with_reducible refine Below.trans ?_ (Below.mono hb4 ?_)) | (with_reducible refine Below.trans ?_ (Below.mono hb5 ?_)) | (with_reducible refine Below.trans ?_ (Below.mono hb6 ?_)) | (with_reducible refine Below.trans ?_ (Below.mono hb7 ?_)) | (with_reducible refine Below.trans ?_ (Below.mono hb8 ?_)) | (with_reducible refine Below.trans ?_ (Below.mono hb9 ?_)) | (with_reducible refine Below.trans ?_ (Below.mono hb10 ?_)) | (with_reducible refine Below.trans ?_ (Below.mono hb11 ?_)) | (with_reducible refine Below.trans ?_ (Below.mono hb12 ?_)) | (with_reducible refine Below.trans ?_ (Below.mono hb13 ?_)) | (with_reducible refine Below.trans ?_ (Below.mono hb14 ?_)) | (with_reducible refine Below.trans ?_ (Below.mono hb15 ?_)) | omega | (simp; done) | (simp; omega)))
      have hm1 : (0 : Int) ≤ (m : Int) := by omega
      have hm2 : (m : Int) < 26 := by omega
      clear Hkeep hraw hlu
      go_wp2_with fail
      refine (HI.out _).mono ?_
      rintro e w2 ⟨rfl, rfl⟩
      go_wp2_with fail
      go_roundg (s.size - (k + 1))
      case measure => have := hgk.out; omega
      case rel => exact ⟨k + 1, by go_num, by omega, rfl, by rw [small_at]; exact hset, by rw [small_at]; exact hb2⟩
    · rw [if_neg hup] at HI
      have hkp := Hkeep.out hup
      rw [← hkp] at hraw
      clear Hkeep hset hkp
      go_wp2_with fail
      refine (HI.out _).mono ?_
      rintro e w2 ⟨rfl, rfl⟩
      go_wp2_with fail
      go_roundg (s.size - (k + 1))
      case measure => have := hgk.out; omega
      case rel => exact ⟨k + 1, by go_num, by omega, rfl, hraw, hb⟩
  · obtain rfl : k = s.size := by omega
    rw [← Hsl.out, lowTo_all] at hraw
    have hcb := hraw.string (P := Tryz.prog) 81 9 5 cp Tryz.underlying81 Tryz.underlying5 Tryz.underlying9
    rw [List.length_map, Hsl.out] at hcb
    have Hres := Lib.hid (show lowS s = ⟨(s.data.toList.map lowU).toArray⟩ from rfl)
    go_wp2_with fail
    go_ret
    exact ⟨by rw [Hres.out] <;> rfl, hb⟩

abbrev Spn := Int × Int
instance instCelSpn : Cel Spn := ⟨2, fun t => [.int .i64 t.1, .int .i64 t.2], fun _ => rfl, by decide, by simp [Value.oneCell']⟩
theorem SA.spn {w : World} {a : Option Addr} {l : List Spn} (h : SA w a l) {i : Nat} (hi : i < l.length) :
    ∃ b off, a = some ⟨b, off, none⟩ ∧ w.cell? ⟨b, off + i * 2, none⟩ = some (.int .i64 l[i].1) ∧ w.cell? ⟨b, off + i * 2 + 1, none⟩ = some (.int .i64 l[i].2) := by
  obtain ⟨b, off, ha, hc⟩ := h.at hi
  exact ⟨b, off, ha, hc 0 (by decide), hc 1 (by decide)⟩
theorem Tryz.infoSpn : (Tryz.prog.info? 40).map (fun i => (i.zero, i.size, i.bytes)) = some (some (.agg #[.int .i64 0, .int .i64 0]), 2, 16) := by kernel_rfl
def spanV (p : Nat × Nat) : Spn := ((p.1 : Int), (p.2 : Int))
set_option maxRecDepth 100000 in
set_option maxHeartbeats 8000000 in
theorem spotsOf_any (s : ByteArray) (w : World) (hs : s.size ≤ 100000000) : Calls Tryz.prog 46 #[.string s] w (GivesOwn 40 ((spots s).map spanV) w) := by
  have HBd := Lib.hid (scanW_bd s)
  have Hfin1 : Hid (∀ acc, scanW s (s.size + 1) = (acc, none) → acc.map spanV = (spots s).map spanV) := fun acc h => by unfold spots; rw [h]
  have HW1 := Lib.hid (fun k (h : k < s.size) => wAt_in h)
  have HW2 := Lib.hid (fun k (h : ¬ k < s.size) => wAt_out h)
  go_enter Tryz.func46, Tryz.ntmps46
  go_wp2_with fail
  go_loopg [3, 4] (s.size + 1) (fun gk v i wr => ∃ (k : Nat) (acc : List (Nat × Nat)), i = .int .i64 k ∧ k ≤ s.size + 1 ∧ Hid (gk = s.size + 1 - k) ∧ Hid (scanW s k = (acc, none)) ∧ Own w.heap.size 40 wr v (acc.map spanV) ∧ Below w.heap.size w wr)
  case atStart => exact ⟨0, [], rfl, by omega, rfl, rfl, Own.nil _ _ _, Below.refl _ _⟩
  obtain ⟨k, acc, rfl, hk, hgk, hsc, hown, hb⟩ := hrel
  have hzr := hb.size
  have hal := (HBd.out k).1
  rw [hsc.out] at hal
  simp only at hal
  by_cases hlt : k < s.size
  · have hk1 : (0 : Int) ≤ (k : Int) := by omega
    have hk2 : (k : Int) < (s.size : Int) := by omega
    have Hw := HW1.out k hlt
    have hcl := s[k].toNat_lt
    have Hwk := Lib.hid (HW1.out k hlt)
    generalize hc : s[k].toNat = c at *
    have HWB := Lib.hid (fun W => wordByte_any c W (by omega))
    cases hwv : wordC c
    · rw [hwv] at HWB Hw
      have Hn := Lib.hid (scanW_pass hsc.out Hw)
      clear Hw hwv Hwk
      go_wp2_with fail
      refine (HWB.out _).mono ?_
      rintro e w2 ⟨rfl, rfl⟩
      go_wp2_with fail
      go_roundg (s.size + 1 - (k + 1))
      case measure => have := hgk.out; omega
      case rel => exact ⟨k + 1, acc, by go_num, by omega, rfl, Hn.out, hown, hb⟩
    · rw [hwv] at HWB Hw
      have Hw2 := Lib.hid Hw
      clear Hw hwv Hwk
      go_wp2_with fail
      refine (HWB.out _).mono ?_
      rintro e w2 ⟨rfl, rfl⟩
      go_wp2_with fail
      rename World => wo
      go_loopg [5] (s.size - k) (fun gj i wx => ∃ j : Nat, i = .int .i64 j ∧ k ≤ j ∧ j ≤ s.size ∧ Hid (gj = s.size - j) ∧ Hid (∀ m, k ≤ m → m < j → wAt s m = true) ∧ Hid (wo = wx))
      case atStart => exact ⟨k, rfl, by omega, by omega, rfl, fun m h1 h2 => (by omega), rfl⟩
      obtain ⟨j, rfl, hkj, hj, hgj, hall, hwo⟩ := hrel
      obtain rfl := hwo.out
      have hj1 : (0 : Int) ≤ (j : Int) := by omega
      by_cases hjl : j < s.size
      · have hj2 : (j : Int) < (s.size : Int) := by omega
        have Hw := HW1.out j hjl
        have hcl := s[j].toNat_lt
        generalize hcj : s[j].toNat = d at *
        have HWB := Lib.hid (fun W => wordByte_any d W (by omega))
        cases hwv : wordC d
        · rw [hwv] at HWB Hw
          have Hw3 := Lib.hid Hw
          clear Hw hwv
          have hnj : k < j := by
            rcases Nat.lt_or_ge k j with h | h
            · exact h
            · exfalso
              have e : j = k := by omega
              rw [e] at Hw3
              rw [Hw2.out] at Hw3
              exact Bool.noConfusion Hw3.out
          have Hn := Lib.hid (scanW_close (scanW_run hsc.out j hnj hall.out) Hw3.out)
          have Hwt := Lib.hid (show (acc ++ [(k, j)]).map spanV = acc.map spanV ++ [((k : Int), (j : Int))] by rw [List.map_append]; rfl)
          have hal2 : (acc.map spanV).length ≤ 100000001 := by rw [List.length_map]; omega
          have hown3 := hown.alloc (.cells #[.int .i64 k, .int .i64 j] 40)
          have hbo := Box.new wo 40 #[.int .i64 k, .int .i64 j]
          have hb4A : Below w.heap.size w (wo.alloc (.cells #[.int .i64 k, .int .i64 j] 40)) := by (repeat' (first | exact Below.refl _ _ | assumption | refine Below.setCell ?_ ?_ _ | refine below_drewN ?_ _ | refine Below.drew ?_ | refine Below.alloc ?_ ?_ _ | (with_reducible refine Below.trans ?_ (Below.mono hb ?_)) | (with_reducible refine Below.trans ?_ (Below.mono hb0 ?_)) | (with_reducible refine Below.trans ?_ (Below.mono hb1 ?_)) | (with_reducible refine Below.trans ?_ (Below.mono hb2 ?_)) | (with_reducible refine Below.trans ?_ (Below.mono hb3 ?_)) | (with_reducible refine Below.trans ?_ (Below.mono hb4 ?_)) | (with_reducible refine Below.trans ?_ (Below.mono hb5 ?_)) | (with_reducible refine Below.trans ?_ (Below.mono hb6 ?_)) | (with_reducible refine Below.trans ?_ (Below.mono hb7 ?_)) | (with_reducible refine Below.trans ?_ (Below.mono hb8 ?_)) | (with_reducible refine Below.trans ?_ (Below.mono hb9 ?_)) | (with_reducible refine Below.trans ?_ (Below.mono hb10 ?_)) | (with_reducible refine Below.trans ?_ (Below.mono hb11 ?_)) | (with_reducible refine Below.trans ?_ (Below.mono hb12 ?_)) | (with_reducible refine Below.trans ?_ (Below.mono hb13 ?_)) | (with_reducible refine Below.trans ?_ (Below.mono hb14 ?_)) | (with_reducible refine Below.trans ?_ (Below.mono hb15 ?_)) | omega | (simp; done) | (simp; omega)))
          have Hol := Lib.hid hown.lt
          clear hown
          go_wp2_with fail; refine (HWB.out _).mono ?_; rintro e w2 ⟨rfl, rfl⟩
          go_wp2_with (at_builtin; refine wpList_append_lie (α := Spn) rfl _ _ 64 rfl 40 16 (.agg #[.int .i64 0, .int .i64 0]) Tryz.underlying64 Tryz.infoSpn rfl _ (acc.map spanV) rfl hown3 ((k : Int), (j : Int)) _ rfl hbo (by omega) (by omega) (by simp; omega) ?_; intro g9 cap9 w9 hown9 hg9 hat9)
          have hb9 := hb4A.grown hg9 (by simp; omega) (fun j hj => (Hol.out j hj).1)
          rw [← Hwt.out, List.length_map] at hown9
          (try go_wp2_with fail)
          go_roundg (s.size + 1 - (j + 1))
          case measure => have := hgk.out; omega
          case rel => exact ⟨j + 1, acc ++ [(k, j)], by go_num, by omega, rfl, Hn.out, hown9, hb9⟩
        · rw [hwv] at HWB Hw
          have Hw3 := Lib.hid Hw
          clear Hw hwv
          go_wp2_with fail
          refine (HWB.out _).mono ?_
          rintro e w2 ⟨rfl, rfl⟩
          go_wp2_with fail
          go_roundg (s.size - (j + 1))
          case measure => have := hgj.out; omega
          case rel => exact ⟨j + 1, by go_num, by omega, by omega, rfl, fun m h1 h2 => if e : m = j then (by rw [e]; exact Hw3.out) else hall.out m h1 (by omega), rfl⟩
      · have hj2 : ¬ (j : Int) < (s.size : Int) := by omega
        have Hw3 := Lib.hid (HW2.out j hjl)
        have hnj : k < j := by
          rcases Nat.lt_or_ge k j with h | h
          · exact h
          · exfalso
            have e : j = k := by omega
            rw [e] at Hw3
            rw [Hw2.out] at Hw3
            exact Bool.noConfusion Hw3.out
        have Hn := Lib.hid (scanW_close (scanW_run hsc.out j hnj hall.out) Hw3.out)
        have Hwt := Lib.hid (show (acc ++ [(k, j)]).map spanV = acc.map spanV ++ [((k : Int), (j : Int))] by rw [List.map_append]; rfl)
        have hal2 : (acc.map spanV).length ≤ 100000001 := by rw [List.length_map]; omega
        have hown3 := hown.alloc (.cells #[.int .i64 k, .int .i64 j] 40)
        have hbo := Box.new wo 40 #[.int .i64 k, .int .i64 j]
        have hb4A : Below w.heap.size w (wo.alloc (.cells #[.int .i64 k, .int .i64 j] 40)) := by (repeat' (first | exact Below.refl _ _ | assumption | refine Below.setCell ?_ ?_ _ | refine below_drewN ?_ _ | refine Below.drew ?_ | refine Below.alloc ?_ ?_ _ | (with_reducible refine Below.trans ?_ (Below.mono hb ?_)) | (with_reducible refine Below.trans ?_ (Below.mono hb0 ?_)) | (with_reducible refine Below.trans ?_ (Below.mono hb1 ?_)) | (with_reducible refine Below.trans ?_ (Below.mono hb2 ?_)) | (with_reducible refine Below.trans ?_ (Below.mono hb3 ?_)) | (with_reducible refine Below.trans ?_ (Below.mono hb4 ?_)) | (with_reducible refine Below.trans ?_ (Below.mono hb5 ?_)) | (with_reducible refine Below.trans ?_ (Below.mono hb6 ?_)) | (with_reducible refine Below.trans ?_ (Below.mono hb7 ?_)) | (with_reducible refine Below.trans ?_ (Below.mono hb8 ?_)) | (with_reducible refine Below.trans ?_ (Below.mono hb9 ?_)) | (with_reducible refine Below.trans ?_ (Below.mono hb10 ?_)) | (with_reducible refine Below.trans ?_ (Below.mono hb11 ?_)) | (with_reducible refine Below.trans ?_ (Below.mono hb12 ?_)) | (with_reducible refine Below.trans ?_ (Below.mono hb13 ?_)) | (with_reducible refine Below.trans ?_ (Below.mono hb14 ?_)) | (with_reducible refine Below.trans ?_ (Below.mono hb15 ?_)) | omega | (simp; done) | (simp; omega)))
        have Hol := Lib.hid hown.lt
        clear hown
        skip
        go_wp2_with (at_builtin; refine wpList_append_lie (α := Spn) rfl _ _ 64 rfl 40 16 (.agg #[.int .i64 0, .int .i64 0]) Tryz.underlying64 Tryz.infoSpn rfl _ (acc.map spanV) rfl hown3 ((k : Int), (j : Int)) _ rfl hbo (by omega) (by omega) (by simp; omega) ?_; intro g9 cap9 w9 hown9 hg9 hat9)
        have hb9 := hb4A.grown hg9 (by simp; omega) (fun j hj => (Hol.out j hj).1)
        rw [← Hwt.out, List.length_map] at hown9
        (try go_wp2_with fail)
        go_roundg (s.size + 1 - (j + 1))
        case measure => have := hgk.out; omega
        case rel => exact ⟨j + 1, acc ++ [(k, j)], by go_num, by omega, rfl, Hn.out, hown9, hb9⟩
  · have hcase : k = s.size ∨ k = s.size + 1 := by omega
    have Hfin : Hid (acc.map spanV = (spots s).map spanV) := by
      show _ = _
      rcases hcase with e | e
      · subst e
        exact Hfin1.out acc (scanW_pass hsc.out (HW2.out _ hlt))
      · subst e
        exact Hfin1.out acc hsc.out
    rw [Hfin.out] at hown
    have hk2 : ¬ (k : Int) < (s.size : Int) := by omega
    clear hcase
    go_wp2_with fail
    go_ret
    exact ⟨_, rfl, hown, hb⟩
set_option maxRecDepth 100000 in
set_option maxHeartbeats 4000000 in
theorem wordsOfR_any (s : ByteArray) (w : World) (hs : s.size ≤ 100000000) : Calls Tryz.prog 28 #[.string s] w (GivesOwn 9 (wordsS s) w) := by
  have HWo := Lib.hid (spotsOf_any s w hs)
  have hll : (spots s).length ≤ 100000001 := by have := spots_len s; omega
  have HBd := Lib.hid (fun p hp => spots_bd (s := s) (p := p) hp)
  have HLw := Lib.hid (fun (f k : Nat) W => lowerR_any (s.extract f k) W (by rw [ByteArray.size_extract]; omega))
  have Hm : Hid (wordsS s = (spots s).map (fun p => lowS (s.extract p.1 p.2))) := rfl
  generalize wordsS s = out at *
  generalize spots s = l at *
  have HSn := Lib.hid (fun k hk => map_take_snoc (fun p : Nat × Nat => lowS (s.extract p.1 p.2)) (l := l) (k := k) hk)
  have Hfin : Hid ((l.take l.length).map (fun p : Nat × Nat => lowS (s.extract p.1 p.2)) = out) := by show _ = _; rw [List.take_length]; exact Hm.out.symm
  have Hll : Hid ((l.map spanV).length = l.length) := List.length_map ..
  have Hat : Hid (∀ k (h : k < l.length) (h' : k < (l.map spanV).length), (l.map spanV)[k] = spanV l[k]) := fun k h h' => List.getElem_map ..
  generalize l.map spanV = sl at *
  go_enter Tryz.func28, Tryz.ntmps28
  go_wp2_with fail
  refine HWo.out.mono ?_
  rintro e W1 ⟨v1, rfl, hown1, hb1⟩
  obtain ⟨wa, wc, rfl, hsa, -, -⟩ := hown1.sa
  have hsl : sl.length ≤ 100000001 := by rw [Hll.out]; exact hll
  clear HWo hown1
  go_wp2_with fail
  go_loopg [3, 9] sl.length (fun gk v i wr => ∃ k : Nat, i = .int .i64 k ∧ k ≤ sl.length ∧ Hid (gk = sl.length - k) ∧ Own W1.heap.size 9 wr v ((l.take k).map (fun p : Nat × Nat => lowS (s.extract p.1 p.2))) ∧ Below W1.heap.size W1 wr)
  case atStart => exact ⟨0, rfl, by omega, rfl, Own.nil _ _ _, Below.refl _ _⟩
  obtain ⟨k, rfl, hk, hgk, hown, hb⟩ := hrel
  have hzr := hb.size
  by_cases hlt : k < sl.length
  · obtain ⟨qb, qoff, hqa, d0, d1⟩ := (hsa.below hb).spn hlt
    have hlt2 : k < l.length := by rw [← Hll.out]; exact hlt
    rw [Hat.out k hlt2 hlt] at d0 d1
    unfold spanV at d0 d1
    have HSk := Lib.hid (HSn.out k hlt2)
    obtain ⟨p1, p2⟩ := HBd.out l[k] (List.getElem_mem hlt2)
    have hal : ((l.take k).map (fun p : Nat × Nat => lowS (s.extract p.1 p.2))).length ≤ 100000001 := by rw [List.length_map, List.length_take]; omega
    have Hq := Lib.hid hqa
    rw [hqa]
    clear hqa
    generalize l[k] = x at *
    obtain ⟨f, g⟩ := x
    simp only at d0 d1 HSk p1 p2
    have HL := Lib.hid (HLw.out f g)
    generalize lowS (s.extract f g) = wd at *
    obtain ⟨acc2, ha2⟩ : ∃ a, (l.take (k + 1)).map (fun p : Nat × Nat => lowS (s.extract p.1 p.2)) = a := ⟨_, rfl⟩
    rw [ha2] at HSk
    have HA2 := Lib.hid ha2
    clear ha2
    generalize (l.take k).map (fun p : Nat × Nat => lowS (s.extract p.1 p.2)) = acc at *
    have hk1 : (0 : Int) ≤ (k : Int) := by omega
    have hk2 : (k : Int) < (sl.length : Int) := by omega
    have hf0 : (0 : Int) ≤ (f : Int) := by omega
    have hf1 : (f : Int) ≤ (g : Int) := by omega
    have hg1 : (g : Int) ≤ (s.size : Int) := by omega
    have hBw := Box.new wr 40 #[.int .i64 f, .int .i64 g]
    have hbA : Below W1.heap.size W1 (wr.alloc (.cells #[.int .i64 f, .int .i64 g] 40)) := by (repeat' (first | exact Below.refl _ _ | assumption | refine Below.setCell ?_ ?_ _ | refine below_drewN ?_ _ | refine Below.drew ?_ | refine Below.alloc ?_ ?_ _ | (with_reducible refine Below.trans ?_ (Below.mono hb ?_)) | (with_reducible refine Below.trans ?_ (Below.mono hb0 ?_)) | (with_reducible refine Below.trans ?_ (Below.mono hb1 ?_)) | (with_reducible refine Below.trans ?_ (Below.mono hb2 ?_)) | (with_reducible refine Below.trans ?_ (Below.mono hb3 ?_)) | (with_reducible refine Below.trans ?_ (Below.mono hb4 ?_)) | (with_reducible refine Below.trans ?_ (Below.mono hb5 ?_)) | (with_reducible refine Below.trans ?_ (Below.mono hb6 ?_)) | (with_reducible refine Below.trans ?_ (Below.mono hb7 ?_)) | (with_reducible refine Below.trans ?_ (Below.mono hb8 ?_)) | (with_reducible refine Below.trans ?_ (Below.mono hb9 ?_)) | (with_reducible refine Below.trans ?_ (Below.mono hb10 ?_)) | (with_reducible refine Below.trans ?_ (Below.mono hb11 ?_)) | (with_reducible refine Below.trans ?_ (Below.mono hb12 ?_)) | (with_reducible refine Below.trans ?_ (Below.mono hb13 ?_)) | (with_reducible refine Below.trans ?_ (Below.mono hb14 ?_)) | (with_reducible refine Below.trans ?_ (Below.mono hb15 ?_)) | omega | (simp; done) | (simp; omega)))
    have hownA := hown.alloc (.cells #[.int .i64 f, .int .i64 g] 40)
    have hBw_l := hBw.lt; have hBw_0 := hBw.cell 0; have hBw_1 := hBw.cell 1; simp at hBw_0 hBw_1
    have Hol := Lib.hid hown.lt
    clear hown
    go_wp2_with fail
    refine (HL.out _).mono ?_
    rintro e w3 ⟨rfl, hb3⟩
    have hb3A := below_next hbA hb3
    have hz3 := hb3A.size
    have hown1 := (hownA.below hb3).alloc (.cells #[.string wd] 9)
    have hbo := Box.new w3 9 #[.string wd]
    have hba : Below W1.heap.size W1 (w3.alloc (.cells #[.string wd] 9)) := by (repeat' (first | exact Below.refl _ _ | assumption | refine Below.setCell ?_ ?_ _ | refine below_drewN ?_ _ | refine Below.drew ?_ | refine Below.alloc ?_ ?_ _ | (with_reducible refine Below.trans ?_ (Below.mono hb ?_)) | (with_reducible refine Below.trans ?_ (Below.mono hb0 ?_)) | (with_reducible refine Below.trans ?_ (Below.mono hb1 ?_)) | (with_reducible refine Below.trans ?_ (Below.mono hb2 ?_)) | (with_reducible refine Below.trans ?_ (Below.mono hb3 ?_)) | (with_reducible refine Below.trans ?_ (Below.mono hb4 ?_)) | (with_reducible refine Below.trans ?_ (Below.mono hb5 ?_)) | (with_reducible refine Below.trans ?_ (Below.mono hb6 ?_)) | (with_reducible refine Below.trans ?_ (Below.mono hb7 ?_)) | (with_reducible refine Below.trans ?_ (Below.mono hb8 ?_)) | (with_reducible refine Below.trans ?_ (Below.mono hb9 ?_)) | (with_reducible refine Below.trans ?_ (Below.mono hb10 ?_)) | (with_reducible refine Below.trans ?_ (Below.mono hb11 ?_)) | (with_reducible refine Below.trans ?_ (Below.mono hb12 ?_)) | (with_reducible refine Below.trans ?_ (Below.mono hb13 ?_)) | (with_reducible refine Below.trans ?_ (Below.mono hb14 ?_)) | (with_reducible refine Below.trans ?_ (Below.mono hb15 ?_)) | omega | (simp; done) | (simp; omega)))
    clear hownA hBw hBw_l hBw_0 hBw_1
    go_wp2_with (at_builtin; refine wpList_append_lie (α := ByteArray) rfl _ _ 26 rfl 9 16 (.string ⟨#[]⟩) Tryz.underlying26 Tryz.infoStrW rfl _ acc rfl hown1 wd _ rfl hbo (by omega) (by omega) (by simp; omega) ?_; intro g9 cap9 w9 hown9 hg9 hat9)
    have hb9 := hba.grown hg9 (by simp; omega) (fun j hj => (Hol.out j hj).1)
    rw [← HSk.out] at hown9
    rw [← Hq.out]
    (try go_wp2_with fail)
    go_roundg (sl.length - (k + 1))
    case measure => have := hgk.out; omega
    case rel => exact ⟨k + 1, by go_num, by omega, rfl, by rw [HA2.out]; exact hown9, hb9⟩
  · have hkl : k = l.length := by rw [← Hll.out]; omega
    rw [hkl, Hfin.out] at hown
    have hq : ¬ (k : Int) < (sl.length : Int) := by omega
    clear hkl
    go_wp2_with fail
    go_ret
    exact ⟨_, rfl, hown.mono (by have := hb1.size; omega), below_next hb1 hb⟩
end Go.Proofs.YthajoedabjfaaaaGreatDoor
