/- Words of strings: the walks. -/
import Derived.Test.YthajoedabjfaaaaGreatDoorWordP
import Derived.Test.YthajoedabjfaaaaGreatDoorReg
import Derived.Test.YthajoedabjfaaaaGreatDoorKeep
namespace Go.Proofs.YthajoedabjfaaaaGreatDoor
open Go.RowKit
set_option linter.unusedVariables false
set_option linter.unusedSimpArgs false

set_option maxHeartbeats 1000000 in
theorem isWordByte_any (c : Nat) (w : World) (hc : c < 256) : Calls Tryz.prog 56 #[.int .u8 (c : Int)] w (fun e w' => e = .returned (.bool (wordC c)) ∧ w' = w) := by
  have HV : Hid (wordC c = decide (97 ≤ c ∧ c ≤ 122 ∨ 65 ≤ c ∧ c ≤ 90 ∨ 48 ≤ c ∧ c ≤ 57 ∨ 128 ≤ c)) := rfl
  generalize wordC c = v at *
  go_enter Tryz.func56, Tryz.ntmps56
  go_wp2_with fail
  all_goals
    go_ret
    refine ⟨congrArg (fun b => Ending.returned (Value.bool b)) (?_ : _ = v), rfl⟩
    rw [HV.out, Bool.eq_iff_iff]
    simp only [Bool.or_eq_true, Bool.and_eq_true, decide_eq_true_eq, reduceCtorEq, iff_true, true_iff, iff_false, false_iff]
    omega
set_option maxHeartbeats 4000000 in
theorem lower_any (s : ByteArray) (w : World) (hs : s.size ≤ 1000000000) : Calls Tryz.prog 78 #[.string s] w (Gives (.string (lowS s)) w) := by
  have hcv := Lib.run_convert_string_bytes (P := Tryz.prog) w 9 81 5 s (u := .string) Tryz.underlying9 Tryz.underlying81 Tryz.underlying5
  have hbb := bytesWorld_below w 5 s
  have hraw := Raw.bytes w 5 s
  have hsl : s.data.toList.length = s.size := by simp
  generalize Lib.bytesWorld w 5 s = wb at *
  generalize grownCap w s.size 0 5 = cp at *
  have Hsl := Lib.hid hsl
  clear hsl
  go_enter Tryz.func78, Tryz.ntmps78
  go_wp2_with fail
  clear hcv
  go_loopg [10] s.size (fun gk i wr => ∃ k : Nat, i = .int .i64 k ∧ k ≤ s.size ∧ Hid (gk = s.size - k) ∧ Raw wr w.heap.size (lowTo s.data.toList k) ∧ Below w.heap.size w wr)
  case atStart => exact ⟨0, rfl, by omega, rfl, by rw [lowTo_zero]; exact hraw, hbb⟩
  clear hraw hbb
  obtain ⟨k, rfl, hk, hgk, hraw, hb⟩ := hrel
  have hzr := hb.size
  by_cases hlt : k < s.size
  · have hkl : k < s.data.toList.length := by rw [Hsl.out]; exact hlt
    have hkl' : k < (lowTo s.data.toList k).length := by rw [lowTo_length]; exact hkl
    have hc := hraw.cell hkl'
    rw [lowTo_at hkl hkl'] at hc
    have hfr := hraw.frozen hkl'
    have Hsucc := Lib.hid (lowTo_succ hkl)
    have Hkeep := Lib.hid (lowTo_keep hkl)
    have Hlow1 := Lib.hid (@lowU_yes s.data.toList[k])
    have hset := hraw.set k (lowU s.data.toList[k])
    generalize lowU s.data.toList[k] = lu at *
    generalize s.data.toList[k] = x at *
    have hx := x.toNat_lt
    generalize hxn : x.toNat = n at *
    clear hxn
    have hk1 : (0 : Int) ≤ (k : Int) := by omega
    have hk2 : (k : Int) < (s.size : Int) := by omega
    by_cases hup : 65 ≤ n ∧ n ≤ 90
    · have hq1 : decide ((65 : Int) ≤ (n : Int)) = true := by simp; omega
      have hq2 : decide ((n : Int) ≤ 90) = true := by simp; omega
      have hw1 : IntKind.u8.wrap ((n : Int) + 97) = (n : Int) + 97 := by unfold IntKind.wrap; simp [IntKind.bits, IntKind.signed]; omega
      have hw2 : IntKind.u8.wrap ((n : Int) + 97 - 65) = (n : Int) + 32 := by unfold IntKind.wrap; simp [IntKind.bits, IntKind.signed]; omega
      have hlu : (lu.toNat : Int) = (n : Int) + 32 := by rw [Hlow1.out hup.1 hup.2]; omega
      rw [hlu, ← Hsucc.out] at hset
      have hb2 : Below w.heap.size w (wr.setCell ⟨w.heap.size, k, none⟩ (.int .u8 ((n : Int) + 32))) := by (repeat' (first | exact Below.refl _ _ | assumption | refine Below.setCell ?_ ?_ _ | refine below_drewN ?_ _ | refine Below.drew ?_ | refine Below.alloc ?_ ?_ _ | (with_reducible refine Below.trans ?_ (Below.mono hb ?_)) | (with_reducible refine Below.trans ?_ (Below.mono hb0 ?_)) | (with_reducible refine Below.trans ?_ (Below.mono hb1 ?_)) | (with_reducible refine Below.trans ?_ (Below.mono hb2 ?_)) | (with_reducible refine Below.trans ?_ (Below.mono hb3 ?_)) | (with_reducible refine Below.trans ?_ (Below.mono hb4 ?_)) | (with_reducible refine Below.trans ?_ (Below.mono hb5 ?_)) | (with_reducible refine Below.trans ?_ (Below.mono hb6 ?_)) | (with_reducible refine Below.trans ?_ (Below.mono hb7 ?_)) | (with_reducible refine Below.trans ?_ (Below.mono hb8 ?_)) | (with_reducible refine Below.trans ?_ (Below.mono hb9 ?_)) | (with_reducible refine Below.trans ?_ (Below.mono hb10 ?_)) | (with_reducible refine Below.trans ?_ (Below.mono hb11 ?_)) | (with_reducible refine Below.trans ?_ (Below.mono hb12 ?_)) | (with_reducible refine Below.trans ?_ (Below.mono hb13 ?_)) | (with_reducible refine Below.trans ?_ (Below.mono hb14 ?_)) | (with_reducible refine Below.trans ?_ (Below.mono hb15 ?_)) | omega | (simp; done) | (simp; omega)))
      clear Hkeep hraw hlu
      go_wp2_with fail
      go_roundg (s.size - (k + 1))
      case measure => have := hgk.out; omega
      case rel => exact ⟨k + 1, by go_num, by omega, rfl, hset, hb2⟩
    · have hkp := Hkeep.out hup
      rw [← hkp] at hraw
      clear Hkeep hset hkp
      by_cases h65 : 65 ≤ n
      · have hq1 : decide ((65 : Int) ≤ (n : Int)) = true := by simp; omega
        have hq2 : decide ((n : Int) ≤ 90) = false := by simp; omega
        go_wp2_with fail
        go_roundg (s.size - (k + 1))
        case measure => have := hgk.out; omega
        case rel => exact ⟨k + 1, by go_num, by omega, rfl, hraw, hb⟩
      · have hq1 : decide ((65 : Int) ≤ (n : Int)) = false := by simp; omega
        go_wp2_with fail
        go_roundg (s.size - (k + 1))
        case measure => have := hgk.out; omega
        case rel => exact ⟨k + 1, by go_num, by omega, rfl, hraw, hb⟩
  · obtain rfl : k = s.size := by omega
    rw [← Hsl.out, lowTo_all] at hraw
    have hcb := hraw.string (P := Tryz.prog) 81 9 5 cp Tryz.underlying81 Tryz.underlying5 Tryz.underlying9
    rw [List.length_map, Hsl.out] at hcb
    have Hres := Lib.hid (show lowS s = ⟨(s.data.toList.map lowU).toArray⟩ from rfl)
    go_wp2_with fail
    go_ret
    exact ⟨by rw [Hres.out] <;> rfl, hb⟩

abbrev Wrd := ByteArray × Int × Int
instance instCelWrd : Cel Wrd := ⟨3, fun t => [.string t.1, .int .i64 t.2.1, .int .i64 t.2.2], fun _ => rfl, by decide, by simp [Value.oneCell']⟩
theorem SA.wrd {w : World} {a : Option Addr} {l : List Wrd} (h : SA w a l) {i : Nat} (hi : i < l.length) :
    ∃ b off, a = some ⟨b, off, none⟩ ∧ w.cell? ⟨b, off + i * 3, none⟩ = some (.string l[i].1) ∧ w.cell? ⟨b, off + i * 3 + 1, none⟩ = some (.int .i64 l[i].2.1) ∧ w.cell? ⟨b, off + i * 3 + 2, none⟩ = some (.int .i64 l[i].2.2) := by
  obtain ⟨b, off, ha, hc⟩ := h.at hi
  exact ⟨b, off, ha, hc 0 (by decide), hc 1 (by decide), hc 2 (by decide)⟩
theorem Tryz.infoWrd : (Tryz.prog.info? 104).map (fun i => (i.zero, i.size, i.bytes)) = some (some (.agg #[.string ⟨#[]⟩, .int .i64 0, .int .i64 0]), 3, 32) := by kernel_rfl
def fromV : Option Nat → Int
  | none => -1
  | some f => (f : Int)
set_option maxRecDepth 100000 in
set_option maxHeartbeats 8000000 in
theorem wordsOf_any (s : ByteArray) (w : World) (hs : s.size ≤ 100000000) : Calls Tryz.prog 33 #[.string s] w (GivesOwn 104 (wordsT s) w) := by
  have HBd := Lib.hid (scanW_bd s)
  have HLw := Lib.hid (fun (f k : Nat) W => lower_any (s.extract f k) W (by rw [ByteArray.size_extract]; omega))
  have Hfin : Hid (∀ acc fo, scanW s (s.size + 1) = (acc, fo) → acc.map (wordT s) = wordsT s) := fun acc fo h => by unfold wordsT spots; rw [h]
  have HW1 := Lib.hid (fun k (h : k < s.size) => wAt_in h)
  have HW2 := Lib.hid (fun k (h : ¬ k < s.size) => wAt_out h)
  go_enter Tryz.func33, Tryz.ntmps33
  go_wp2_with fail
  go_loopg [3, 4, 5] (s.size + 1) (fun gk v f i wr => ∃ (k : Nat) (acc : List (Nat × Nat)) (fo : Option Nat), i = .int .i64 k ∧ k ≤ s.size + 1 ∧ Hid (gk = s.size + 1 - k) ∧ Hid (scanW s k = (acc, fo)) ∧ f = .int .i64 (fromV fo) ∧ Own w.heap.size 104 wr v (acc.map (wordT s)) ∧ Below w.heap.size w wr)
  case atStart => exact ⟨0, [], none, rfl, by omega, rfl, rfl, rfl, Own.nil _ _ _, Below.refl _ _⟩
  obtain ⟨k, acc, fo, rfl, hk, hgk, hsc, rfl, hown, hb⟩ := hrel
  have hzr := hb.size
  obtain ⟨g1, g2, g3⟩ := HBd.out k
  rw [hsc.out] at g1 g2 g3
  simp only at g1 g3
  have Hg2 := Lib.hid g2
  clear g2
  by_cases hlt : k ≤ s.size
  · have hk1 : (0 : Int) ≤ (k : Int) := by omega
    by_cases hlt2 : k < s.size
    · have hk2 : (k : Int) < (s.size : Int) := by omega
      have Hw := HW1.out k hlt2
      have hcl := s[k].toNat_lt
      generalize hc : s[k].toNat = c at *
      have HWB := Lib.hid (fun W => isWordByte_any c W (by omega))
      cases hwv : wordC c
      · rw [hwv] at HWB Hw
        have Hw2 := Lib.hid Hw
        clear Hw hwv
        cases fo with
        | none =>
          have Hn := Lib.hid (scanW_pass hsc.out Hw2.out)
          unfold fromV
          go_wp2_with fail
          refine (HWB.out _).mono ?_
          rintro e w2 ⟨rfl, rfl⟩
          go_wp2_with fail
          go_roundg (s.size + 1 - (k + 1))
          case measure => have := hgk.out; omega
          case rel => exact ⟨k + 1, acc, none, by go_num, by omega, rfl, Hn.out, rfl, hown, hb⟩
        | some f =>
          have Hn := Lib.hid (scanW_close hsc.out Hw2.out)
          have hfk := g3 f rfl
          have hf0 : (0 : Int) ≤ (f : Int) := by omega
          have hf1 : (f : Int) ≤ (k : Int) := by omega
          have hk4 : (k : Int) ≤ (s.size : Int) := by omega
          have HL := Lib.hid (HLw.out f k)
          have Hwt := Lib.hid (show (acc ++ [(f, k)]).map (wordT s) = acc.map (wordT s) ++ [(lowS (s.extract f k), (f : Int), (k : Int))] by rw [List.map_append]; rfl)
          have hal : (acc.map (wordT s)).length ≤ 100000001 := by rw [List.length_map]; omega
          generalize lowS (s.extract f k) = wd at *
          unfold fromV
          go_wp2_with fail
          refine (HWB.out _).mono ?_; rintro e w2 ⟨rfl, rfl⟩; go_wp2_with fail
          refine (HL.out _).mono ?_
          rintro e w3 ⟨rfl, hb3⟩
          have hb3A := below_next hb hb3
          have hz3 := hb3A.size
          have hown3 := (hown.below hb3).alloc (.cells #[.string wd, .int .i64 f, .int .i64 k] 104)
          have hbo := Box.new w3 104 #[.string wd, .int .i64 f, .int .i64 k]
          have hb4A : Below w.heap.size w (w3.alloc (.cells #[.string wd, .int .i64 f, .int .i64 k] 104)) := by (repeat' (first | exact Below.refl _ _ | assumption | refine Below.setCell ?_ ?_ _ | refine below_drewN ?_ _ | refine Below.drew ?_ | refine Below.alloc ?_ ?_ _ | (with_reducible refine Below.trans ?_ (Below.mono hb ?_)) | (with_reducible refine Below.trans ?_ (Below.mono hb0 ?_)) | (with_reducible refine Below.trans ?_ (Below.mono hb1 ?_)) | (with_reducible refine Below.trans ?_ (Below.mono hb2 ?_)) | (with_reducible refine Below.trans ?_ (Below.mono hb3 ?_)) | (with_reducible refine Below.trans ?_ (Below.mono hb4 ?_)) | (with_reducible refine Below.trans ?_ (Below.mono hb5 ?_)) | (with_reducible refine Below.trans ?_ (Below.mono hb6 ?_)) | (with_reducible refine Below.trans ?_ (Below.mono hb7 ?_)) | (with_reducible refine Below.trans ?_ (Below.mono hb8 ?_)) | (with_reducible refine Below.trans ?_ (Below.mono hb9 ?_)) | (with_reducible refine Below.trans ?_ (Below.mono hb10 ?_)) | (with_reducible refine Below.trans ?_ (Below.mono hb11 ?_)) | (with_reducible refine Below.trans ?_ (Below.mono hb12 ?_)) | (with_reducible refine Below.trans ?_ (Below.mono hb13 ?_)) | (with_reducible refine Below.trans ?_ (Below.mono hb14 ?_)) | (with_reducible refine Below.trans ?_ (Below.mono hb15 ?_)) | omega | (simp; done) | (simp; omega)))
          have Hol := Lib.hid hown.lt
          clear hown
          go_wp2_with (at_builtin; refine wpList_append_lie (α := Wrd) rfl _ _ 62 rfl 104 32 (.agg #[.string ⟨#[]⟩, .int .i64 0, .int .i64 0]) Tryz.underlying62 Tryz.infoWrd rfl _ (acc.map (wordT s)) rfl hown3 (wd, (f : Int), (k : Int)) _ rfl hbo (by omega) (by omega) (by simp; omega) ?_; intro g9 cap9 w9 hown9 hg9 hat9)
          have hb9 := hb4A.grown hg9 (by simp; omega) (fun j hj => (Hol.out j hj).1)
          rw [← Hwt.out, List.length_map] at hown9
          (try go_wp2_with fail)
          go_roundg (s.size + 1 - (k + 1))
          case measure => have := hgk.out; omega
          case rel => exact ⟨k + 1, acc ++ [(f, k)], none, by go_num, by omega, rfl, Hn.out, rfl, hown9, hb9⟩
      · rw [hwv] at HWB Hw
        have Hw2 := Lib.hid Hw
        clear Hw hwv
        cases fo with
        | none =>
          have Hn := Lib.hid (scanW_open hsc.out Hw2.out)
          unfold fromV
          go_wp2_with fail
          refine (HWB.out _).mono ?_
          rintro e w2 ⟨rfl, rfl⟩
          go_wp2_with fail
          go_roundg (s.size + 1 - (k + 1))
          case measure => have := hgk.out; omega
          case rel => exact ⟨k + 1, acc, some k, by go_num, by omega, rfl, Hn.out, rfl, hown, hb⟩
        | some f =>
          have Hn := Lib.hid (scanW_go hsc.out Hw2.out)
          have hf0 : (0 : Int) ≤ (f : Int) := by omega
          unfold fromV
          go_wp2_with fail
          refine (HWB.out _).mono ?_
          rintro e w2 ⟨rfl, rfl⟩
          go_wp2_with fail
          go_roundg (s.size + 1 - (k + 1))
          case measure => have := hgk.out; omega
          case rel => exact ⟨k + 1, acc, some f, by go_num, by omega, rfl, Hn.out, rfl, hown, hb⟩
    · have hks : k = s.size := by omega
      have hk3 : ¬ (k : Int) < (s.size : Int) := by omega
      have Hks := Lib.hid hks
      have Hw2 := Lib.hid (HW2.out k hlt2)
      cases fo with
      | none =>
        have Hn := Lib.hid (scanW_pass hsc.out Hw2.out)
        clear hks
        unfold fromV
        go_wp2_with fail
        go_roundg (s.size + 1 - (k + 1))
        case measure => have := hgk.out; omega
        case rel => exact ⟨k + 1, acc, none, by go_num, by omega, rfl, Hn.out, rfl, hown, hb⟩
      | some f =>
        clear hks
        have Hn := Lib.hid (scanW_close hsc.out Hw2.out)
        have hfk := g3 f rfl
        have hf0 : (0 : Int) ≤ (f : Int) := by omega
        have hf1 : (f : Int) ≤ (k : Int) := by omega
        have hk4 : (k : Int) ≤ (s.size : Int) := by omega
        have HL := Lib.hid (HLw.out f k)
        have Hwt := Lib.hid (show (acc ++ [(f, k)]).map (wordT s) = acc.map (wordT s) ++ [(lowS (s.extract f k), (f : Int), (k : Int))] by rw [List.map_append]; rfl)
        have hal : (acc.map (wordT s)).length ≤ 100000001 := by rw [List.length_map]; omega
        generalize lowS (s.extract f k) = wd at *
        unfold fromV
        go_wp2_with fail
        skip
        refine (HL.out _).mono ?_
        rintro e w3 ⟨rfl, hb3⟩
        have hb3A := below_next hb hb3
        have hz3 := hb3A.size
        have hown3 := (hown.below hb3).alloc (.cells #[.string wd, .int .i64 f, .int .i64 k] 104)
        have hbo := Box.new w3 104 #[.string wd, .int .i64 f, .int .i64 k]
        have hb4A : Below w.heap.size w (w3.alloc (.cells #[.string wd, .int .i64 f, .int .i64 k] 104)) := by (repeat' (first | exact Below.refl _ _ | assumption | refine Below.setCell ?_ ?_ _ | refine below_drewN ?_ _ | refine Below.drew ?_ | refine Below.alloc ?_ ?_ _ | (with_reducible refine Below.trans ?_ (Below.mono hb ?_)) | (with_reducible refine Below.trans ?_ (Below.mono hb0 ?_)) | (with_reducible refine Below.trans ?_ (Below.mono hb1 ?_)) | (with_reducible refine Below.trans ?_ (Below.mono hb2 ?_)) | (with_reducible refine Below.trans ?_ (Below.mono hb3 ?_)) | (with_reducible refine Below.trans ?_ (Below.mono hb4 ?_)) | (with_reducible refine Below.trans ?_ (Below.mono hb5 ?_)) | (with_reducible refine Below.trans ?_ (Below.mono hb6 ?_)) | (with_reducible refine Below.trans ?_ (Below.mono hb7 ?_)) | (with_reducible refine Below.trans ?_ (Below.mono hb8 ?_)) | (with_reducible refine Below.trans ?_ (Below.mono hb9 ?_)) | (with_reducible refine Below.trans ?_ (Below.mono hb10 ?_)) | (with_reducible refine Below.trans ?_ (Below.mono hb11 ?_)) | (with_reducible refine Below.trans ?_ (Below.mono hb12 ?_)) | (with_reducible refine Below.trans ?_ (Below.mono hb13 ?_)) | (with_reducible refine Below.trans ?_ (Below.mono hb14 ?_)) | (with_reducible refine Below.trans ?_ (Below.mono hb15 ?_)) | omega | (simp; done) | (simp; omega)))
        have Hol := Lib.hid hown.lt
        clear hown
        go_wp2_with (at_builtin; refine wpList_append_lie (α := Wrd) rfl _ _ 62 rfl 104 32 (.agg #[.string ⟨#[]⟩, .int .i64 0, .int .i64 0]) Tryz.underlying62 Tryz.infoWrd rfl _ (acc.map (wordT s)) rfl hown3 (wd, (f : Int), (k : Int)) _ rfl hbo (by omega) (by omega) (by simp; omega) ?_; intro g9 cap9 w9 hown9 hg9 hat9)
        have hb9 := hb4A.grown hg9 (by simp; omega) (fun j hj => (Hol.out j hj).1)
        rw [← Hwt.out, List.length_map] at hown9
        (try go_wp2_with fail)
        go_roundg (s.size + 1 - (k + 1))
        case measure => have := hgk.out; omega
        case rel => exact ⟨k + 1, acc ++ [(f, k)], none, by go_num, by omega, rfl, Hn.out, rfl, hown9, hb9⟩
  · obtain rfl : k = s.size + 1 := by omega
    have Hf := Lib.hid (Hfin.out acc fo hsc.out)
    rw [Hf.out] at hown
    have hq : decide (((s.size + 1 : Nat) : Int) ≤ (s.size : Int)) = false := by simp; omega
    go_wp2_with fail
    go_ret
    exact ⟨_, rfl, hown, hb⟩

theorem map_take_snoc {α β : Type} (f : α → β) {l : List α} {k : Nat} (hk : k < l.length) : (l.take (k + 1)).map f = (l.take k).map f ++ [f l[k]] := by
  rw [List.take_succ_eq_append_getElem hk, List.map_append]; rfl
theorem Tryz.infoStrW : (Tryz.prog.info? 9).map (fun i => (i.zero, i.size, i.bytes)) = some (some (.string ⟨#[]⟩), 1, 16) := by kernel_rfl
set_option maxRecDepth 100000 in
set_option maxHeartbeats 4000000 in
theorem words_any (s : ByteArray) (w : World) (hs : s.size ≤ 100000000) : Calls Tryz.prog 35 #[.string s] w (GivesOwn 9 (wordsS s) w) := by
  have HWo := Lib.hid (wordsOf_any s w hs)
  have hll : (wordsT s).length ≤ 100000001 := by unfold wordsT; rw [List.length_map]; have := spots_len s; omega
  have Hm := Lib.hid (wordsS_of s)
  generalize wordsS s = out at *
  generalize wordsT s = l at *
  have HSn := Lib.hid (fun k hk => map_take_snoc (fun x : Wrd => x.1) (l := l) (k := k) hk)
  have Hfin : Hid ((l.take l.length).map (fun x : Wrd => x.1) = out) := by show _ = _; rw [List.take_length]; exact Hm.out
  go_enter Tryz.func35, Tryz.ntmps35
  go_wp2_with fail
  refine HWo.out.mono ?_
  rintro e W1 ⟨v1, rfl, hown1, hb1⟩
  obtain ⟨wa, wc, rfl, hsa, -, -⟩ := hown1.sa
  clear HWo hown1
  go_wp2_with fail
  go_loopg [3, 9] l.length (fun gk v i wr => ∃ k : Nat, i = .int .i64 k ∧ k ≤ l.length ∧ Hid (gk = l.length - k) ∧ Own W1.heap.size 9 wr v ((l.take k).map (fun x : Wrd => x.1)) ∧ Below W1.heap.size W1 wr)
  case atStart => exact ⟨0, rfl, by omega, rfl, Own.nil _ _ _, Below.refl _ _⟩
  obtain ⟨k, rfl, hk, hgk, hown, hb⟩ := hrel
  have hzr := hb.size
  by_cases hlt : k < l.length
  · obtain ⟨qb, qoff, hqa, d0, d1, d2⟩ := (hsa.below hb).wrd hlt
    have HSk := Lib.hid (HSn.out k hlt)
    have hal : ((l.take k).map (fun x : Wrd => x.1)).length ≤ 100000001 := by rw [List.length_map, List.length_take]; omega
    have Hq := Lib.hid hqa
    rw [hqa]
    clear hqa
    generalize l[k] = x at *
    obtain ⟨x1, x2, x3⟩ := x
    simp only at d0 d1 d2 HSk
    obtain ⟨acc2, ha2⟩ : ∃ a, (l.take (k + 1)).map (fun x : Wrd => x.1) = a := ⟨_, rfl⟩
    rw [ha2] at HSk
    have HA2 := Lib.hid ha2
    clear ha2
    generalize (l.take k).map (fun x : Wrd => x.1) = acc at *
    have hk1 : (0 : Int) ≤ (k : Int) := by omega
    have hk2 : (k : Int) < (l.length : Int) := by omega
    have hBw := Box.new wr 104 #[.string x1, .int .i64 x2, .int .i64 x3]
    have hown1 := (hown.alloc (.cells #[.string x1, .int .i64 x2, .int .i64 x3] 104)).alloc (.cells #[.string x1] 9)
    have hbo := Box.newAt (wr.alloc (.cells #[.string x1, .int .i64 x2, .int .i64 x3] 104)) (wr.heap.size + 1) 9 #[.string x1] (by simp)
    have hba : Below W1.heap.size W1 ((wr.alloc (.cells #[.string x1, .int .i64 x2, .int .i64 x3] 104)).alloc (.cells #[.string x1] 9)) := by (repeat' (first | exact Below.refl _ _ | assumption | refine Below.setCell ?_ ?_ _ | refine below_drewN ?_ _ | refine Below.drew ?_ | refine Below.alloc ?_ ?_ _ | (with_reducible refine Below.trans ?_ (Below.mono hb ?_)) | (with_reducible refine Below.trans ?_ (Below.mono hb0 ?_)) | (with_reducible refine Below.trans ?_ (Below.mono hb1 ?_)) | (with_reducible refine Below.trans ?_ (Below.mono hb2 ?_)) | (with_reducible refine Below.trans ?_ (Below.mono hb3 ?_)) | (with_reducible refine Below.trans ?_ (Below.mono hb4 ?_)) | (with_reducible refine Below.trans ?_ (Below.mono hb5 ?_)) | (with_reducible refine Below.trans ?_ (Below.mono hb6 ?_)) | (with_reducible refine Below.trans ?_ (Below.mono hb7 ?_)) | (with_reducible refine Below.trans ?_ (Below.mono hb8 ?_)) | (with_reducible refine Below.trans ?_ (Below.mono hb9 ?_)) | (with_reducible refine Below.trans ?_ (Below.mono hb10 ?_)) | (with_reducible refine Below.trans ?_ (Below.mono hb11 ?_)) | (with_reducible refine Below.trans ?_ (Below.mono hb12 ?_)) | (with_reducible refine Below.trans ?_ (Below.mono hb13 ?_)) | (with_reducible refine Below.trans ?_ (Below.mono hb14 ?_)) | (with_reducible refine Below.trans ?_ (Below.mono hb15 ?_)) | omega | (simp; done) | (simp; omega)))
    have Hol := Lib.hid hown.lt
    have hBw_l := hBw.lt; have hBw_0 := hBw.cell 0; have hBw_1 := hBw.cell 1; have hBw_2 := hBw.cell 2; simp at hBw_0 hBw_1 hBw_2
    clear hown
    go_wp2_with (at_builtin; refine wpList_append_lie (α := ByteArray) rfl _ _ 26 rfl 9 16 (.string ⟨#[]⟩) Tryz.underlying26 Tryz.infoStrW rfl _ acc rfl hown1 x1 _ rfl hbo (by omega) (by omega) (by simp; omega) ?_; intro g9 cap9 w9 hown9 hg9 hat9)
    have hb9 := hba.grown hg9 (by simp; omega) (fun j hj => (Hol.out j hj).1)
    rw [← HSk.out] at hown9
    rw [← Hq.out]
    (try go_wp2_with fail)
    go_roundg (l.length - (k + 1))
    case measure => have := hgk.out; omega
    case rel => exact ⟨k + 1, by go_num, by omega, rfl, by rw [HA2.out]; exact hown9, hb9⟩
  · obtain rfl : k = l.length := by omega
    rw [Hfin.out] at hown
    go_wp2_with fail
    go_ret
    exact ⟨_, rfl, hown.mono (by have := hb1.size; omega), below_next hb1 hb⟩
end Go.Proofs.YthajoedabjfaaaaGreatDoor
