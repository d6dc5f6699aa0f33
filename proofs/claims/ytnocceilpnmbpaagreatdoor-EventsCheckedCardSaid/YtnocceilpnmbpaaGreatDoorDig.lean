/- Digests: the hash, hexadecimal digits, the sum of an event's text; of program and reference. -/
import Derived.Test.YtnocceilpnmbpaaGreatDoorEnvE
import Derived.Test.YtnocceilpnmbpaaGreatDoorMakeList
import Derived.Laws.Bits64b
import Derived.Lib.BitFns
namespace Go.Proofs.YtnocceilpnmbpaaGreatDoor
open Go.RowKit
set_option linter.unusedVariables false
set_option linter.unusedSimpArgs false

theorem hashL_step (s : ByteArray) (k : Nat) (h : Int) (hk : k < s.size) : hashL (s.data.toList.drop k) h = hashL (s.data.toList.drop (k + 1)) (IntKind.u64.wrap (bits .xor .u64 h (IntKind.u64.wrap (s[k].toNat : Int)) * 1099511628211)) := by
 have hk' : k < s.data.toList.length := by simpa using hk
 rw [List.drop_eq_getElem_cons hk']
 rfl
set_option maxHeartbeats 2000000 in
theorem hash64_any (s : ByteArray) (w : World) (hs : s.size ≤ 1000000000) : Calls Tryz.prog 120 #[.string s] w (fun e w' => e = .returned (.int .u64 (hashN s)) ∧ w = w') := by
 go_enter Tryz.func120, Tryz.ntmps120
 go_wp2_with fail
 go_loopg [3, 4] s.size (fun gk s3 s4 wr => ∃ (k : Nat) (h : Int), s3 = .int .u64 h ∧ s4 = .int .i64 k ∧ k ≤ s.size ∧ Hid (gk = s.size - k) ∧ Hid (hashL (s.data.toList.drop k) h = hashN s) ∧ Hid (w = wr))
 case atStart => exact ⟨0, _, rfl, rfl, by omega, rfl, rfl, rfl⟩
 case round =>
  obtain ⟨k, h, rfl, rfl, hk, hgk, hh, hw⟩ := hrel
  by_cases hlt : k < s.size
  ·
   have HS := Lib.hid (hashL_step s k h hlt)
   generalize hc : s[k].toNat = c at *
   go_wp2_with fail
   go_roundg (s.size - (k + 1))
   case measure => have := hgk.out; omega
   case rel => exact ⟨k + 1, _, rfl, by go_num, by omega, rfl, by show _ = _; rw [← hh.out, HS.out], hw⟩
  ·
   obtain rfl : k = s.size := by omega
   have hd : h = hashN s := by rw [← hh.out, List.drop_of_length_le (by simp)]; rfl
   obtain rfl := hw.out
   rw [hd]; clear hd hh; go_wp2_with fail; go_ret; exact ⟨rfl, rfl⟩
theorem tz16_any (w : World) (hT : TabsE w) : Calls Tryz.prog 192 #[.int .u64 16] w (fun e w' => e = .returned (.int .i64 4) ∧ w = w') := by
 have hc := hT.2
 have H64 : Hid (∀ w : World, w.cell? ⟨5, 15, none⟩ = some (.int .u8 4) → Calls Tryz.prog 201 #[.int .u64 16] w (fun e w' => e = .returned (.int .i64 4) ∧ w = w')) := by
  intro w hc
  have key : IntKind.u64.wrap (bits .and .u64 16 (IntKind.u64.wrap (-16)) * 285870213051353865) / 288230376151711744 = 15 := by decide +kernel
  go_enter Tryz.func201, Tryz.ntmps201
  go_wp2_with (simp only [key])
  go_ret
  exact ⟨rfl, rfl⟩
 go_enter Tryz.func192, Tryz.ntmps192
 go_wp2_with fail
 refine (H64.out _ hc).mono ?_
 rintro e w' ⟨rfl, rfl⟩
 go_wp2_with fail
 go_ret
 exact ⟨rfl, rfl⟩
theorem and15 (v : Nat) (h : v < 18446744073709551616) : bits .and .u64 (v : Int) 15 = ((v % 16 : Nat) : Int) := by
 have := bits_and_u64_nat v 15 h (by omega)
 rw [show ((15 : Nat) : Int) = 15 from rfl] at this
 rw [this, Nat.and_two_pow_sub_one_eq_mod v 4]
theorem pow16_any (w : World) : Calls Tryz.prog 191 #[.int .i64 16] w (fun e w' => e = .returned (.bool true) ∧ w = w') := by
 go_enter Tryz.func191, Tryz.ntmps191
 go_wp2_with fail
 go_ret
 exact ⟨rfl, rfl⟩
def digits16 : ByteArray := ⟨#[48, 49, 50, 51, 52, 53, 54, 55, 56, 57, 97, 98, 99, 100, 101, 102, 103, 104, 105, 106, 107, 108, 109, 110, 111, 112, 113, 114, 115, 116, 117, 118, 119, 120, 121, 122]⟩
theorem digits16_size : digits16.size = 36 := by kernel_rfl
theorem digit_at (v : Nat) (h : v < 16) : (digits16[v]'(by rw [digits16_size]; omega)).toNat = (hexD v).toNat := by
 have : ∀ v : Fin 16, (digits16.data.toList.getD v.val 0).toNat = (hexD v.val).toNat := by decide +kernel
 rw [← this ⟨v, h⟩, List.getD_eq_getElem?_getD, List.getElem?_eq_getElem (by have := digits16_size; simpa using (by omega : v < digits16.size))]
 rfl
theorem hexL_ne (u : Nat) (hu : u < 18446744073709551616) : (hexL u).length ≤ 16 := hexL_len 15 u (by rw [show 16 ^ (15 + 1) = 18446744073709551616 from by decide]; exact hu)
theorem slice65 (b p : Nat) (hp : 0 < p) (hp2 : p < 65) (W : World) : (Instr.sliceAt 196 (.pointer (some ⟨b, 0, none⟩)) (some (.int .i64 (p : Int))) none none).run Tryz.prog W = .ok (.slice (some ⟨b, p, none⟩) (65 - p) (65 - p)) W := by
 have hl : Tryz.prog.arrayLen 196 = 65 := by kernel_rfl
 have he : Tryz.prog.elem 196 = 5 := by kernel_rfl
 rw [run_sliceAt_array_l W 196 ⟨b, 0, none⟩ (by rw [hl, he]; exact Tryz.underlying196) .i64 p (by omega) (by rw [hl]; omega), he, Tryz.sizeOf5, hl]
 simp only [Result.andThen_ok, slicedAt, Int.toNat_natCast]
 rw [if_neg (by omega)]
 unfold Addr.add
 rw [if_neg (by omega)]
 simp
set_option maxRecDepth 100000 in
set_option maxHeartbeats 4000000 in
theorem formatBits_any (u : Nat) (hu : u < 18446744073709551616) (w : World) (hT : TabsE w) : Calls Tryz.prog 178 #[.slice none 0 0, .int .u64 u, .int .i64 16, .bool false, .bool false] w (Gives (.tuple #[.slice none 0 0, .string ⟨(hexL u).toArray⟩]) w) := by
 have HP := Lib.hid pow16_any
 have HZ := Lib.hid tz16_any
 have Hlen := Lib.hid (hexL_ne u hu)
 go_enter Tryz.func178, Tryz.ntmps178
 go_wp2_with fail
 refine (HP.out _).mono ?_
 rintro e w' ⟨rfl, rfl⟩
 have hbx0 := Box.new w 196 Tryz.zeroCells196
 have hb0 : Below w.heap.size w (w.alloc (.cells Tryz.zeroCells196 196)) := (Below.refl _ _).alloc (Nat.le_refl _) _
 have hT1 : TabsE (w.alloc (.cells Tryz.zeroCells196 196)) := hT.below hb0
 have hz0 : (w.alloc (.cells Tryz.zeroCells196 196)).heap.size = w.heap.size + 1 := by simp
 have hcz : Tryz.zeroCells196.size = 65 := by kernel_rfl
 generalize Tryz.zeroCells196 = zc at *
 generalize w.alloc (.cells zc 196) = W0 at *
 go_wp2_with fail
 refine (HZ.out _ hT1).mono ?_
 rintro e w' ⟨rfl, rfl⟩
 clear hT1 hT
 go_wp2_with fail
 go_loopg [1, 13] u (fun gk s1 s13 wr => ∃ (v i : Nat) (ds : List UInt8) (cur : Array Value), s1 = .int .u64 v ∧ s13 = .int .i64 i ∧ Hid (i + ds.length = 65) ∧ v < 18446744073709551616 ∧ Hid (gk = v) ∧ Hid (hexL u = hexL v ++ ds) ∧ Box wr w.heap.size 196 cur ∧ Hid (cur.size = 65) ∧ Hid (∀ j (h : j < ds.length), cur[i + j]? = some (.int .u8 (ds[j]).toNat)) ∧ Below w.heap.size w wr)
 case atStart => exact ⟨u, 65, [], zc, rfl, rfl, rfl, hu, rfl, by show _ = _; simp, hbx0, hcz, fun j h => by simp at h, hb0⟩
 case round =>
  clear hbx0 hb0
  obtain ⟨v, i, ds, cur, rfl, rfl, hi, hv, hgk, hh, hbx, hcs, hds, hb⟩ := hrel
  have hpos := hexL_pos v
  have hi2 : 50 ≤ i := by have := Hlen.out; rw [hh.out, List.length_append] at this; have := hi.out; omega
  have hi3 : i ≤ 65 := by have := hi.out; omega
  obtain ⟨p, rfl⟩ : ∃ p, i = p + 1 := ⟨i - 1, by omega⟩
  clear hpos
  have hp1 : ((p + 1 : Nat) : Int) - 1 = (p : Int) := by omega
  have hfz := hbx.frozen p
  by_cases h16 : v < 16
  ·
   have hdg : ∀ h, ((⟨#[48, 49, 50, 51, 52, 53, 54, 55, 56, 57, 97, 98, 99, 100, 101, 102, 103, 104, 105, 106, 107, 108, 109, 110, 111, 112, 113, 114, 115, 116, 117, 118, 119, 120, 121, 122]⟩ : ByteArray)[v]'h).toNat = (hexD v).toNat := fun _ => digit_at v h16
   have hcp : wr.cell? ⟨w.heap.size, p, none⟩ = some cur[p]! := by
    rw [hbx.cell p, Array.getElem?_eq_getElem (by rw [hcs.out]; omega), getElem!_pos cur p (by rw [hcs.out]; omega)]
   have hfin : ∀ j (h : j < (hexD v :: ds).length), (cur.setIfInBounds p (.int .u8 (hexD v).toNat))[p + j]? = some (.int .u8 ((hexD v :: ds)[j]).toNat) := by
    intro j h
    cases j with
    | zero => rw [Nat.add_zero, Array.getElem?_setIfInBounds_self_of_lt (by rw [hcs.out]; omega)]; rfl
    | succ j =>
     rw [Array.getElem?_setIfInBounds_ne (by omega)]
     have := hds.out j (by simpa using h)
     rw [show p + (j + 1) = p + 1 + j from by omega, this]
     rfl
   have hbx2 := hbx.set p (.int .u8 (hexD v).toNat)
   have hlen : (hexD v :: ds).length = 65 - p := by have := hi.out; simp; omega
   have hsl : ∀ W, (Instr.sliceAt 196 (.pointer (some ⟨w.heap.size, 0, none⟩)) (some (.int .i64 (p : Int))) none none).run Tryz.prog W = .ok (.slice (some ⟨w.heap.size, p, none⟩) (65 - p) (65 - p)) W := slice65 w.heap.size p (by omega) (by omega)
   have hcv : (convert 118 9 (.slice (some ⟨w.heap.size, p, none⟩) (65 - p) (65 - p))).run Tryz.prog (wr.setCell ⟨w.heap.size, p, none⟩ (.int .u8 (hexD v).toNat)) = .ok (.string ⟨(hexL u).toArray⟩) (wr.setCell ⟨w.heap.size, p, none⟩ (.int .u8 (hexD v).toNat)) := by
    have := run_convert_bytes_back (P := Tryz.prog) (wr.setCell ⟨w.heap.size, p, none⟩ (.int .u8 (hexD v).toNat)) 118 9 5 ⟨w.heap.size, p, none⟩ (65 - p) (hexD v :: ds) Tryz.underlying118 Tryz.underlying5 Tryz.underlying9 (fun j hj => by
     rw [show (Addr.add ⟨w.heap.size, p, none⟩ j : Addr) = ⟨w.heap.size, p + j, none⟩ from by unfold Addr.add; split <;> simp_all]
     rw [hbx2.cell, hfin j hj])
    rw [hlen] at this
    rw [this, hh.out, hexL_small h16]
    rfl
   have Hb : Hid (Below w.heap.size w (wr.setCell ⟨w.heap.size, p, none⟩ (.int .u8 (hexD v).toNat))) := hb.setCell (Nat.le_refl _) _
   clear hfin hbx2 hbx hds hh hlen
   go_wp2_with fail
   refine bodyPost_ret (v := .tuple #[.slice none 0 0, .string ⟨(hexL u).toArray⟩]) (by simp only [results, Tryz.results178]; go_simp) rfl ?_
   exact ⟨rfl, Hb.out⟩
  ·
   have hand := and15 v hv
   have hm16 : v % 16 < 16 := Nat.mod_lt _ (by omega)
   have hdg : ∀ h, ((⟨#[48, 49, 50, 51, 52, 53, 54, 55, 56, 57, 97, 98, 99, 100, 101, 102, 103, 104, 105, 106, 107, 108, 109, 110, 111, 112, 113, 114, 115, 116, 117, 118, 119, 120, 121, 122]⟩ : ByteArray)[v % 16]'h).toNat = (hexD (v % 16)).toNat := fun _ => digit_at (v % 16) hm16
   have hcp : wr.cell? ⟨w.heap.size, p, none⟩ = some cur[p]! := by
    rw [hbx.cell p, Array.getElem?_eq_getElem (by rw [hcs.out]; omega), getElem!_pos cur p (by rw [hcs.out]; omega)]
   have hbx2 := hbx.set p (.int .u8 (hexD (v % 16)).toNat)
   have hb2 : Below w.heap.size w (wr.setCell ⟨w.heap.size, p, none⟩ (.int .u8 (hexD (v % 16)).toNat)) := hb.setCell (Nat.le_refl _) _
   have Hhx : Hid (hexL u = hexL (v / 16) ++ (hexD (v % 16) :: ds)) := by show _ = _; rw [hh.out, hexL_big h16]; simp
   have Hfin : Hid (∀ j (h : j < (hexD (v % 16) :: ds).length), (cur.setIfInBounds p (.int .u8 (hexD (v % 16)).toNat))[p + j]? = some (.int .u8 ((hexD (v % 16) :: ds)[j]).toNat)) := by
    intro j h
    cases j with
    | zero => rw [Nat.add_zero, Array.getElem?_setIfInBounds_self_of_lt (by rw [hcs.out]; omega)]; rfl
    | succ j =>
     rw [Array.getElem?_setIfInBounds_ne (by omega)]
     have := hds.out j (by simpa using h)
     rw [show p + (j + 1) = p + 1 + j from by omega, this]
     rfl
   have Hlt : Hid (v / 16 < v) := by show _ < _; omega
   clear hbx hb hds hh
   go_wp2_with fail
   go_roundg (v / 16)
   case measure => have := hgk.out; have := Hlt.out; omega
   case rel => exact ⟨v / 16, p, hexD (v % 16) :: ds, _, by first | rfl | go_num, rfl, by show _ = _; have := hi.out; simp; omega, by omega, rfl, Hhx, hbx2, by show _ = _; rw [Array.size_setIfInBounds]; exact hcs.out, Hfin, hb2⟩
set_option maxHeartbeats 1000000 in
theorem formatHex_any (u : Nat) (hu : u < 18446744073709551616) (w : World) (hT : TabsE w) : Calls Tryz.prog 119 #[.int .u64 u, .int .i64 16] w (Gives (.string ⟨(hexL u).toArray⟩) w) := by
 have HF := Lib.hid (formatBits_any u hu w hT)
 have HI : Hid (Calls Tryz.prog 151 #[.int .u64 u, .int .i64 16] w (Gives (.string ⟨(hexL u).toArray⟩) w)) := by
  show Calls _ _ _ _ _
  go_enter Tryz.func151, Tryz.ntmps151
  go_wp2_with fail
  refine HF.out.mono ?_
  rintro e w1 ⟨rfl, hb⟩
  go_wp2_with fail
  go_ret
  exact ⟨rfl, hb⟩
 go_enter Tryz.func119, Tryz.ntmps119
 go_wp2_with fail
 refine HI.out.mono ?_
 rintro e w1 ⟨rfl, hb⟩
 go_wp2_with fail
 go_ret
 exact ⟨rfl, hb⟩
theorem hashL_bd : ∀ (l : List UInt8) (h : Int), 0 ≤ h → h < 18446744073709551616 → 0 ≤ hashL l h ∧ hashL l h < 18446744073709551616
 | [], h, h0, h1 => ⟨h0, h1⟩
 | c :: r, h, h0, h1 => by
  have e := IntKind.wrap_u64 (bits .xor .u64 h (IntKind.u64.wrap (c.toNat : Int)) * 1099511628211)
  exact hashL_bd r _ (by rw [e]; omega) (by rw [e]; omega)
theorem hashN_nat (s : ByteArray) : ∃ u : Nat, hashN s = u ∧ (hashN s).toNat = u ∧ u < 18446744073709551616 := by
 obtain ⟨h0, h1⟩ := hashL_bd s.data.toList 14695981039346656037 (by decide) (by decide)
 exact ⟨(hashN s).toNat, by unfold hashN; omega, rfl, by unfold hashN; omega⟩
theorem repeatL_one (c : UInt8) : ∀ n, Lib.repeatL [c] n = List.replicate n c
 | 0 => rfl
 | n + 1 => by rw [List.replicate_succ, ← repeatL_one c n]; rfl
theorem repeatC_any (c : UInt8) (n : Nat) (w : World) (hn : n ≤ 100000) : Calls Tryz.prog 56 #[.string ⟨#[c]⟩, .int .i64 n] w (Gives (.string ⟨(List.replicate n c).toArray⟩) w) :=
 (Tryz.strings_Repeat ⟨#[c]⟩ n w (by omega) (by show 1 * n ≤ _; omega)).mono fun e w' ⟨h1, h2⟩ => ⟨by rw [h1]; show _ = Ending.returned (.string ⟨(List.replicate n c).toArray⟩); rw [← repeatL_one], h2⟩
theorem ba_app (x y : List UInt8) : (⟨x.toArray⟩ : ByteArray) ++ ⟨y.toArray⟩ = ⟨(x ++ y).toArray⟩ := by
 apply ba_ext.1
 simp
set_option maxRecDepth 100000 in
set_option maxHeartbeats 2000000 in
theorem digest_any (s : ByteArray) (w : World) (hs : s.size ≤ 1000000000) (hT : TabsE w) : Calls Tryz.prog 96 #[.string s] w (Gives (.string (digB s)) w) := by
 have HF := Lib.hid (fun u hu => formatHex_any u hu w hT)
 obtain ⟨u, hu1, hu2, hu3⟩ := hashN_nat s
 have HD : Hid (digB s = ⟨(List.replicate (16 - (hexL u).length) 48).toArray⟩ ++ ⟨(hexL u).toArray⟩) := by show _ = _; rw [ba_app]; unfold digB; rw [hu2]
 have HL := Lib.hid (hexL_ne u hu3)
 have HU := Lib.hid hu1
 clear hu1 hu2
 go_enter Tryz.func96, Tryz.ntmps96
 go_wp2_with fail
 go_loopg [3, 4] s.size (fun gk s3 s4 wr => ∃ (k : Nat) (h : Int), s3 = .int .u64 h ∧ s4 = .int .i64 k ∧ k ≤ s.size ∧ Hid (gk = s.size - k) ∧ Hid (hashL (s.data.toList.drop k) h = hashN s) ∧ Hid (w = wr))
 case atStart => exact ⟨0, _, rfl, rfl, by omega, rfl, rfl, rfl⟩
 case round =>
  obtain ⟨k, h, rfl, rfl, hk, hgk, hh, hw⟩ := hrel
  by_cases hlt : k < s.size
  ·
   have HS := Lib.hid (hashL_step s k h hlt)
   generalize hc : s[k].toNat = c at *
   go_wp2_with fail
   go_roundg (s.size - (k + 1))
   case measure => have := hgk.out; omega
   case rel => exact ⟨k + 1, _, rfl, by go_num, by omega, rfl, by show _ = _; rw [← hh.out, HS.out], hw⟩
  ·
   obtain rfl : k = s.size := by omega
   have hd : h = hashN s := by rw [← hh.out, List.drop_of_length_le (by simp)]; rfl
   obtain rfl := hw.out
   skip
   rw [hd, HU.out]
   clear hd hh
   go_wp2_with fail
   refine (HF.out u hu3).mono ?_
   rintro e w1 ⟨rfl, hb1⟩
   have hsz : (⟨(hexL u).toArray⟩ : ByteArray).size = (hexL u).length := by show (hexL u).toArray.size = _; simp
   have hsub : (16 : Int) - ((⟨(hexL u).toArray⟩ : ByteArray).size : Int) = ((16 - (hexL u).length : Nat) : Int) := by rw [hsz]; have := HL.out; omega
   clear hsz
   have hn : 16 - (hexL u).length ≤ 100000 := by omega
   generalize 16 - (hexL u).length = n at *
   generalize (⟨(hexL u).toArray⟩ : ByteArray) = y at *
   go_wp2_with fail
   refine (repeatC_any 48 n _ hn).mono ?_
   rintro e w2 ⟨rfl, hb2⟩
   go_wp2_with fail
   go_ret
   exact ⟨by rw [HD.out] <;> rfl, below_next hb1 hb2⟩
theorem pad_step {L : List UInt8} {k : Nat} (h : k + L.length < 16) : (⟨#[48]⟩ : ByteArray) ++ ⟨(List.replicate k 48 ++ L).toArray⟩ = ⟨(List.replicate (k + 1) 48 ++ L).toArray⟩ := by
 apply ba_ext.1
 simp [List.replicate_succ]
set_option maxRecDepth 100000 in
set_option maxHeartbeats 2000000 in
theorem digestOf_any (s : ByteArray) (w : World) (hs : s.size ≤ 1000000000) (hT : TabsE w) : Calls Tryz.prog 84 #[.string s] w (Gives (.string (digB s)) w) := by
 have HF := Lib.hid (fun u hu => formatHex_any u hu w hT)
 have HH := Lib.hid (hash64_any s w hs)
 obtain ⟨u, hu1, hu2, hu3⟩ := hashN_nat s
 have HD : Hid (digB s = ⟨(List.replicate (16 - (hexL u).length) 48 ++ hexL u).toArray⟩) := by show _ = _; unfold digB; rw [hu2]
 have HL := Lib.hid (hexL_ne u hu3)
 rw [hu1] at HH
 clear hu1 hu2
 go_enter Tryz.func84, Tryz.ntmps84
 go_wp2_with fail
 refine HH.out.mono ?_
 rintro e w1 ⟨rfl, rfl⟩
 go_wp2_with fail
 refine (HF.out u hu3).mono ?_
 rintro e w1 ⟨rfl, hb1⟩
 generalize hexL u = L at *
 have HP := Lib.hid (fun k h => pad_step (L := L) (k := k) h)
 have h0 : (⟨L.toArray⟩ : ByteArray) = ⟨(List.replicate 0 48 ++ L).toArray⟩ := by simp
 rw [h0]
 clear h0
 go_wp2_with fail
 go_loopg [3] (16 - L.length) (fun gk s3 wr => ∃ k : Nat, s3 = .string ⟨(List.replicate k 48 ++ L).toArray⟩ ∧ Hid (k + L.length ≤ 16) ∧ Hid (gk = 16 - L.length - k) ∧ Hid (w1 = wr))
 case atStart => exact ⟨0, rfl, by show _ ≤ _; have := HL.out; omega, rfl, rfl⟩
 case round =>
  obtain ⟨k, rfl, hk, hgk, hw⟩ := hrel
  obtain rfl := hw.out
  have hsz : (⟨(List.replicate k 48 ++ L).toArray⟩ : ByteArray).size = k + L.length := by show (List.replicate k 48 ++ L).toArray.size = _; simp
  by_cases hlt : k + L.length < 16
  ·
   have hst := HP.out k hlt
   generalize hx : (⟨(List.replicate k 48 ++ L).toArray⟩ : ByteArray) = x at *
   have hlt2 : (x.size : Int) < 16 := by rw [hsz]; omega
   clear hx hsz
   go_wp2_with fail
   go_roundg (16 - L.length - (k + 1))
   case measure => have := hgk.out; omega
   case rel => exact ⟨k + 1, by first | rfl | rw [hst], by show _ ≤ _; omega, rfl, rfl⟩
  ·
   have hd : ⟨(List.replicate k 48 ++ L).toArray⟩ = digB s := by
    rw [HD.out, show k = 16 - L.length from by have := hk.out; omega]
   have hlt2 : ¬ ((⟨(List.replicate k 48 ++ L).toArray⟩ : ByteArray).size : Int) < 16 := by rw [hsz]; omega
   rw [hd] at hlt2 ⊢
   clear hd hsz
   go_wp2_with fail
   go_ret
   exact ⟨rfl, hb1⟩
end Go.Proofs.YtnocceilpnmbpaaGreatDoor
