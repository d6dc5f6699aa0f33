/- Finding an event by its sum: find of the program (a binary search), eventOf of the reference. -/
import Derived.Test.YtnocceilpnmbpaaGreatDoorEvL
namespace Go.Proofs.YtnocceilpnmbpaaGreatDoor
open Go.RowKit
set_option linter.unusedVariables false
set_option linter.unusedSimpArgs false

def findE (l : List Ev) (s : ByteArray) : Option Ev := l.find? (fun x => decide (x.sum = s))
theorem evAt_find (l : List Ev) (s : ByteArray) : evAt l s = (findE l s).map (·.at_) := rfl
theorem hasE_find (l : List Ev) (s : ByteArray) : hasE l s = (findE l s).isSome := by
 unfold hasE findE
 rw [List.isSome_find?]
theorem findE_mem {l : List Ev} {s : ByteArray} {x : Ev} (h : findE l s = some x) : x ∈ l ∧ x.sum = s :=
 ⟨List.mem_of_find?_eq_some h, by have := List.find?_some (p := fun x : Ev => decide (x.sum = s)) h; exact of_decide_eq_true this⟩
set_option maxHeartbeats 1000000 in
theorem findClo_any (x : Ev) (s : ByteArray) (w : World) : Calls Tryz.prog 99 #[x.agg, .string s] w (Gives (.int .i64 (cmpS x.sum s)) w) := by
 obtain ⟨x1, x2, x3, x4, x5, x6, x7, x8, x9, xa, xc⟩ := x
 unfold Ev.agg
 simp only
 have HS : Hid (∀ W', Calls Tryz.prog 47 #[.string x1, .string s] W' (fun e w' => e = .returned (.int .i64 (cmpS x1 s)) ∧ w' = W')) := fun W' => Tryz.strings_Compare x1 s W'
 have hb0 := (Below.refl w.heap.size w).alloc (Nat.le_refl _) (.cells #[.string x1, .string x2, .int .i64 x3, .slice xa x4.length xc, .int .i64 x5, .string x6, .string x7, .string x8, .string x9] 53)
 go_enter Tryz.func99, Tryz.ntmps99
 go_wp2_with fail
 refine (HS.out _).mono ?_
 rintro e w' ⟨rfl, rfl⟩
 go_wp2_with fail
 go_ret
 exact ⟨rfl, hb0⟩
set_option maxRecDepth 100000 in
set_option maxHeartbeats 4000000 in
theorem searchEv_any (l : List Ev) (a : Option Addr) (cap : Nat) (s : ByteArray) (w : World) (h : SA w a l) (hr : RiseE l) (hl : l.length ≤ 1000000) :
  Calls Tryz.prog 98 #[.slice a l.length cap, .string s, .func (.func 99) #[] #[]] w (Gives (.tuple #[.int .i64 (posE l s : Nat), .bool (hasE l s)]) w) := by
 have HL := Lib.hid (posE_lt hr s)
 have HF := Lib.hid (hasE_pos hr s)
 have Hle := Lib.hid (posE_le l s)
 have HSA := Lib.hid h
 clear hr h
 generalize hfd : hasE l s = fd at *
 clear hfd
 generalize posE l s = p at *
 have hpl := Hle.out
 go_enter Tryz.func98, Tryz.ntmps98
 go_wp2_with fail
 go_loopg [9, 10] l.length (fun gk s9 s10 wr => ∃ lo hi : Nat, s9 = .int .i64 lo ∧ s10 = .int .i64 hi ∧ lo ≤ hi ∧ hi ≤ l.length ∧ Hid (hi - lo ≤ gk) ∧ lo ≤ p ∧ p ≤ hi ∧ Below w.heap.size w wr)
 case atStart => exact ⟨0, l.length, rfl, rfl, by omega, by omega, Nat.le_refl _, by omega, hpl, Below.refl _ _⟩
 case round =>
  obtain ⟨lo, hi, rfl, rfl, hlh, hil, hgk, hlo, hhi, hb⟩ := hrel
  by_cases hlt : lo < hi
  ·
   obtain ⟨m, hm⟩ : ∃ m, (lo + hi) / 2 = m := ⟨_, rfl⟩
   have hm1 : ((lo : Int) + (hi : Int)) / 2 = (m : Int) := by omega
   have hm2 : m < l.length := by omega
   have hm3 : (0 : Int) ≤ (m : Int) := by omega
   have hm4 : (m : Int) < (l.length : Int) := by omega
   obtain ⟨b, off, ha, c0, c1, c2, c3, c4, c5, c6, c7, c8⟩ := (HSA.out.below hb).ev hm2
   have Ha := Lib.hid ha
   have HLm := Lib.hid (HL.out m hm2)
   have HCm := Lib.hid (fun W => findClo_any l[m] s W)
   rw [ha]
   clear ha
   generalize l[m] = y at *
   obtain ⟨y1, y2, y3, y4, y5, y6, y7, y8, y9, ya, yc⟩ := y
   simp only at c0 c1 c2 c3 c4 c5 c6 c7 c8 HLm HCm
   unfold Ev.agg at HCm
   simp only at HCm
   generalize cmpS y1 s = cv at *
   go_wp2_with fail
   refine (HCm.out _).mono ?_
   rintro e w2 ⟨rfl, hb1⟩
   have hb2 := below_next hb hb1
   clear c0 c1 c2 c3 c4 c5 c6 c7 c8 hb1 hb
   by_cases hcn : cv < 0
   ·
    have hmp := HLm.out.1 hcn
    go_wp2_with fail
    rw [← Ha.out]
    go_roundg (hi - (m + 1))
    case measure => have := hgk.out; omega
    case rel => exact ⟨m + 1, hi, by go_num, rfl, by omega, by omega, Nat.le_refl _, by omega, by omega, hb2⟩
   ·
    have hmp : ¬ m < p := fun h => hcn (HLm.out.2 h)
    go_wp2_with fail
    rw [← Ha.out]
    go_roundg (m - lo)
    case measure => have := hgk.out; omega
    case rel => exact ⟨lo, m, rfl, by go_num, by omega, by omega, Nat.le_refl _, by omega, by omega, hb2⟩
  ·
   obtain rfl : hi = lo := by omega
   obtain rfl : p = hi := by omega
   by_cases hpn : p < l.length
   ·
    obtain ⟨b, off, ha, c0, c1, c2, c3, c4, c5, c6, c7, c8⟩ := (HSA.out.below hb).ev hpn
    have HCm := Lib.hid (fun W => findClo_any l[p] s W)
    have HFm : Hid (decide (cmpS l[p].sum s = 0) = fd) := by
     show _ = _
     rw [Bool.eq_iff_iff, decide_eq_true_iff, HF.out, cmpS_zero]
     exact ⟨fun h => ⟨hpn, h⟩, fun ⟨_, h⟩ => h⟩
    rw [ha]
    clear ha
    generalize l[p] = y at *
    obtain ⟨y1, y2, y3, y4, y5, y6, y7, y8, y9, ya, yc⟩ := y
    simp only at c0 c1 c2 c3 c4 c5 c6 c7 c8 HFm HCm
    unfold Ev.agg at HCm
    simp only at HCm
    generalize cmpS y1 s = cv at *
    have hp1 : (p : Int) < (l.length : Int) := by omega
    have hp2 : (0 : Int) ≤ (p : Int) := by omega
    go_wp2_with fail
    refine (HCm.out _).mono ?_
    rintro e w2 ⟨rfl, hb1⟩
    have hb2 := below_next hb hb1
    clear c0 c1 c2 c3 c4 c5 c6 c7 c8 hb1 hb
    go_wp2_with fail
    go_ret2
    exact ⟨by rw [← HFm.out] <;> first | rfl | (congr 3; simp), hb2⟩
   ·
    have HFm : Hid (fd = false) := by
     show _ = _
     rw [Bool.eq_false_iff]
     intro h
     exact hpn (HF.out.1 h).1
    have hp1 : ¬ ((p : Int) < (l.length : Int)) := by omega
    go_wp2_with fail
    go_ret2
    exact ⟨by rw [HFm.out] <;> rfl, hb⟩
set_option maxHeartbeats 1000000 in
theorem findEv_pos (l : List Ev) (a : Option Addr) (cap : Nat) (s : ByteArray) (w : World) (h : SA w a l) (hr : RiseE l) (hl : l.length ≤ 1000000) :
  Calls Tryz.prog 51 #[.slice a l.length cap, .string s] w (Gives (.tuple #[.int .i64 (posE l s : Nat), .bool (hasE l s)]) w) := by
 have HS := Lib.hid (searchEv_any l a cap s w h hr hl)
 generalize hasE l s = fd at *
 generalize posE l s = p at *
 clear h hr
 go_enter Tryz.func51, Tryz.ntmps51
 go_wp2_with fail
 refine HS.out.mono ?_
 rintro e w1 ⟨rfl, hb⟩
 go_wp2_with fail
 go_ret2
 exact ⟨rfl, hb⟩
theorem Box.setEq {w : World} {b : Nat} {T : TypeId} {vs vs' : Array Value} (h : Box w b T vs) (i : Nat) (v : Value) (e : vs.setIfInBounds i v = vs') : Box (w.setCell ⟨b, i, none⟩ v) b T vs' := e ▸ h.set i v
theorem box_set9 {w : World} {b : Nat} {T : TypeId} {u0 u1 u2 u3 u4 u5 u6 u7 u8 : Value} (h : Box w b T #[u0, u1, u2, u3, u4, u5, u6, u7, u8]) (v0 v1 v2 v3 v4 v5 v6 v7 v8 : Value) : Box (((((((((w.setCell ⟨b, 0, none⟩ v0).setCell ⟨b, 1, none⟩ v1).setCell ⟨b, 2, none⟩ v2).setCell ⟨b, 3, none⟩ v3).setCell ⟨b, 4, none⟩ v4).setCell ⟨b, 5, none⟩ v5).setCell ⟨b, 6, none⟩ v6).setCell ⟨b, 7, none⟩ v7).setCell ⟨b, 8, none⟩ v8) b T #[v0, v1, v2, v3, v4, v5, v6, v7, v8] := by
 have h1 := Box.setEq (vs' := #[v0, u1, u2, u3, u4, u5, u6, u7, u8]) h 0 v0 (by simp)
 have h2 := Box.setEq (vs' := #[v0, v1, u2, u3, u4, u5, u6, u7, u8]) h1 1 v1 (by simp)
 have h3 := Box.setEq (vs' := #[v0, v1, v2, u3, u4, u5, u6, u7, u8]) h2 2 v2 (by simp)
 have h4 := Box.setEq (vs' := #[v0, v1, v2, v3, u4, u5, u6, u7, u8]) h3 3 v3 (by simp)
 have h5 := Box.setEq (vs' := #[v0, v1, v2, v3, v4, u5, u6, u7, u8]) h4 4 v4 (by simp)
 have h6 := Box.setEq (vs' := #[v0, v1, v2, v3, v4, v5, u6, u7, u8]) h5 5 v5 (by simp)
 have h7 := Box.setEq (vs' := #[v0, v1, v2, v3, v4, v5, v6, u7, u8]) h6 6 v6 (by simp)
 have h8 := Box.setEq (vs' := #[v0, v1, v2, v3, v4, v5, v6, v7, u8]) h7 7 v7 (by simp)
 have h9 := Box.setEq (vs' := #[v0, v1, v2, v3, v4, v5, v6, v7, v8]) h8 8 v8 (by simp)
 exact h9
theorem below_set9 {base : Nat} {w0 w : World} (h : Below base w0 w) {b : Nat} (hb : base ≤ b) (v0 v1 v2 v3 v4 v5 v6 v7 v8 : Value) : Below base w0 (((((((((w.setCell ⟨b, 0, none⟩ v0).setCell ⟨b, 1, none⟩ v1).setCell ⟨b, 2, none⟩ v2).setCell ⟨b, 3, none⟩ v3).setCell ⟨b, 4, none⟩ v4).setCell ⟨b, 5, none⟩ v5).setCell ⟨b, 6, none⟩ v6).setCell ⟨b, 7, none⟩ v7).setCell ⟨b, 8, none⟩ v8) :=
 ((((((((h.setCell hb v0).setCell hb v1).setCell hb v2).setCell hb v3).setCell hb v4).setCell hb v5).setCell hb v6).setCell hb v7).setCell hb v8
set_option maxRecDepth 100000 in
set_option maxHeartbeats 4000000 in
theorem eventOf_any (l : List Ev) (a : Option Addr) (cap : Nat) (s : ByteArray) (w : World) (h : SA w a l) (hl : l.length ≤ 1000000) :
  Calls Tryz.prog 55 #[.slice a l.length cap, .string s] w (Gives (.tuple #[((findE l s).getD default).agg, .bool (findE l s).isSome]) w) := by
 have HSA := Lib.hid h
 clear h
 obtain ⟨r, hr⟩ : ∃ r, findE l s = r := ⟨_, rfl⟩
 have HR : Hid ((l.drop 0).find? (fun x => decide (x.sum = s)) = r) := hr
 rw [hr]
 clear hr
 go_enter Tryz.func55, Tryz.ntmps55
 go_wp2_with fail
 have hbx0 := Box.new w 53 #[.string ⟨#[]⟩, .string ⟨#[]⟩, .int .i64 0, .slice none 0 0, .int .i64 0, .string ⟨#[]⟩, .string ⟨#[]⟩, .string ⟨#[]⟩, .string ⟨#[]⟩]
 have hb0 : Below w.heap.size w (w.alloc (.cells #[.string ⟨#[]⟩, .string ⟨#[]⟩, .int .i64 0, .slice none 0 0, .int .i64 0, .string ⟨#[]⟩, .string ⟨#[]⟩, .string ⟨#[]⟩, .string ⟨#[]⟩] 53)) := (Below.refl _ _).alloc (Nat.le_refl _) _
 go_loopg [10] l.length (fun gk i wr => ∃ k : Nat, i = .int .i64 k ∧ k ≤ l.length ∧ Hid (gk = l.length - k) ∧ Hid ((l.drop k).find? (fun x => decide (x.sum = s)) = r) ∧ Box wr w.heap.size 53 #[.string ⟨#[]⟩, .string ⟨#[]⟩, .int .i64 0, .slice none 0 0, .int .i64 0, .string ⟨#[]⟩, .string ⟨#[]⟩, .string ⟨#[]⟩, .string ⟨#[]⟩] ∧ Below w.heap.size w wr)
 case atStart => exact ⟨0, rfl, by omega, rfl, HR, hbx0, hb0⟩
 case round =>
  clear hbx0 hb0
  obtain ⟨k, rfl, hk, hgk, hfd, hbx, hb⟩ := hrel
  have hz := hb.size
  have hbl := hbx.lt
  by_cases hlt : k < l.length
  ·
   obtain ⟨b, off, ha, c0, c1, c2, c3, c4, c5, c6, c7, c8⟩ := (HSA.out.below hb).ev hlt
   have HY := Lib.hid (find_drop_yes (fun x : Ev => decide (x.sum = s)) l k hlt)
   have HN := Lib.hid (find_drop (fun x : Ev => decide (x.sum = s)) l k hlt)
   have Ha := Lib.hid ha
   rw [ha]
   clear ha
   generalize l[k] = x at *
   obtain ⟨x1, x2, x3, x4, x5, x6, x7, x8, x9, xa, xc⟩ := x
   simp only at c0 c1 c2 c3 c4 c5 c6 c7 c8 HY HN
   by_cases he : x1 = s
   ·
    have hq := tl_eq he
    have Hr := Lib.hid (hfd.out.symm.trans (HY.out (decide_eq_true he)))
    rw [Hr.out]
    have hbx9 := box_set9 hbx (.string s) (.string x2) (.int .i64 x3) (.slice xa x4.length xc) (.int .i64 x5) (.string x6) (.string x7) (.string x8) (.string x9)
    have Hb9 := Lib.hid (below_set9 hb (Nat.le_refl w.heap.size) (.string s) (.string x2) (.int .i64 x3) (.slice xa x4.length xc) (.int .i64 x5) (.string x6) (.string x7) (.string x8) (.string x9))
    have Hbx := Lib.hid hbx9
    clear hbx9
    have hbx_f0 := hbx.frozen 0; have hbx_f1 := hbx.frozen 1; have hbx_f2 := hbx.frozen 2; have hbx_f3 := hbx.frozen 3; have hbx_f4 := hbx.frozen 4; have hbx_f5 := hbx.frozen 5; have hbx_f6 := hbx.frozen 6; have hbx_f7 := hbx.frozen 7; have hbx_f8 := hbx.frozen 8
    have hbx_l := hbx.lt; have hbx_0 := hbx.cell 0; have hbx_1 := hbx.cell 1; have hbx_2 := hbx.cell 2; have hbx_3 := hbx.cell 3; have hbx_4 := hbx.cell 4; have hbx_5 := hbx.cell 5; have hbx_6 := hbx.cell 6; have hbx_7 := hbx.cell 7; have hbx_8 := hbx.cell 8; simp at hbx_0 hbx_1 hbx_2 hbx_3 hbx_4 hbx_5 hbx_6 hbx_7 hbx_8
    go_wp2_with fail
    have hbx9 := Hbx.out
    clear Hbx hbx hbx_f0 hbx_f1 hbx_f2 hbx_f3 hbx_f4 hbx_f5 hbx_f6 hbx_f7 hbx_f8 hbx_0 hbx_1 hbx_2 hbx_3 hbx_4 hbx_5 hbx_6 hbx_7 hbx_8 hbx_l hbl
    generalize (((((((((wr.setCell ⟨w.heap.size, 0, none⟩ (.string s)).setCell ⟨w.heap.size, 1, none⟩ (.string x2)).setCell ⟨w.heap.size, 2, none⟩ (.int .i64 x3)).setCell ⟨w.heap.size, 3, none⟩ (.slice xa x4.length xc)).setCell ⟨w.heap.size, 4, none⟩ (.int .i64 x5)).setCell ⟨w.heap.size, 5, none⟩ (.string x6)).setCell ⟨w.heap.size, 6, none⟩ (.string x7)).setCell ⟨w.heap.size, 7, none⟩ (.string x8)).setCell ⟨w.heap.size, 8, none⟩ (.string x9)) = WX at *
    have hbx9_l := hbx9.lt; have hbx9_0 := hbx9.cell 0; have hbx9_1 := hbx9.cell 1; have hbx9_2 := hbx9.cell 2; have hbx9_3 := hbx9.cell 3; have hbx9_4 := hbx9.cell 4; have hbx9_5 := hbx9.cell 5; have hbx9_6 := hbx9.cell 6; have hbx9_7 := hbx9.cell 7; have hbx9_8 := hbx9.cell 8; simp at hbx9_0 hbx9_1 hbx9_2 hbx9_3 hbx9_4 hbx9_5 hbx9_6 hbx9_7 hbx9_8
    refine bodyPost_ret (v := .tuple #[.agg #[.string s, .string x2, .int .i64 x3, .slice xa x4.length xc, .int .i64 x5, .string x6, .string x7, .string x8, .string x9], .bool true]) (by simp only [results, Tryz.results55]; go_simp) rfl ?_
    exact ⟨by rw [← he] <;> rfl, Hb9.out.alloc (by have := Hb9.out.size; omega) _⟩
   ·
    have hq := tl_ne he
    have Hr := Lib.hid ((HN.out (decide_eq_false he)).symm.trans hfd.out)
    have hb1 : Below w.heap.size w (wr.alloc (.cells #[.string x1, .string x2, .int .i64 x3, .slice xa x4.length xc, .int .i64 x5, .string x6, .string x7, .string x8, .string x9] 53)) := hb.alloc (by omega) _
    have hbx1 := hbx.alloc (.cells #[.string x1, .string x2, .int .i64 x3, .slice xa x4.length xc, .int .i64 x5, .string x6, .string x7, .string x8, .string x9] 53)
    clear hbx hb he
    go_wp2_with fail
    rw [← Ha.out]
    go_roundg (l.length - (k + 1))
    case measure => have := hgk.out; omega
    case rel => exact ⟨k + 1, by go_num, by omega, rfl, Hr.out, hbx1, hb1⟩
  ·
   obtain rfl : k = l.length := by omega
   have hr : r = none := by rw [← hfd.out, List.drop_length]; rfl
   rw [hr]
   have hbx9 := box_set9 hbx (.string ⟨#[]⟩) (.string ⟨#[]⟩) (.int .i64 0) (.slice none 0 0) (.int .i64 0) (.string ⟨#[]⟩) (.string ⟨#[]⟩) (.string ⟨#[]⟩) (.string ⟨#[]⟩)
   have Hb9 := Lib.hid (below_set9 hb (Nat.le_refl w.heap.size) (.string ⟨#[]⟩) (.string ⟨#[]⟩) (.int .i64 0) (.slice none 0 0) (.int .i64 0) (.string ⟨#[]⟩) (.string ⟨#[]⟩) (.string ⟨#[]⟩) (.string ⟨#[]⟩))
   have Hbx := Lib.hid hbx9
   clear hbx9
   have hbx_f0 := hbx.frozen 0; have hbx_f1 := hbx.frozen 1; have hbx_f2 := hbx.frozen 2; have hbx_f3 := hbx.frozen 3; have hbx_f4 := hbx.frozen 4; have hbx_f5 := hbx.frozen 5; have hbx_f6 := hbx.frozen 6; have hbx_f7 := hbx.frozen 7; have hbx_f8 := hbx.frozen 8
   have hbx_l := hbx.lt; have hbx_0 := hbx.cell 0; have hbx_1 := hbx.cell 1; have hbx_2 := hbx.cell 2; have hbx_3 := hbx.cell 3; have hbx_4 := hbx.cell 4; have hbx_5 := hbx.cell 5; have hbx_6 := hbx.cell 6; have hbx_7 := hbx.cell 7; have hbx_8 := hbx.cell 8; simp at hbx_0 hbx_1 hbx_2 hbx_3 hbx_4 hbx_5 hbx_6 hbx_7 hbx_8
   go_wp2_with fail
   have hbx9 := Hbx.out
   clear Hbx hbx hbx_f0 hbx_f1 hbx_f2 hbx_f3 hbx_f4 hbx_f5 hbx_f6 hbx_f7 hbx_f8 hbx_0 hbx_1 hbx_2 hbx_3 hbx_4 hbx_5 hbx_6 hbx_7 hbx_8 hbx_l hbl
   generalize (((((((((wr.setCell ⟨w.heap.size, 0, none⟩ (.string ⟨#[]⟩)).setCell ⟨w.heap.size, 1, none⟩ (.string ⟨#[]⟩)).setCell ⟨w.heap.size, 2, none⟩ (.int .i64 0)).setCell ⟨w.heap.size, 3, none⟩ (.slice none 0 0)).setCell ⟨w.heap.size, 4, none⟩ (.int .i64 0)).setCell ⟨w.heap.size, 5, none⟩ (.string ⟨#[]⟩)).setCell ⟨w.heap.size, 6, none⟩ (.string ⟨#[]⟩)).setCell ⟨w.heap.size, 7, none⟩ (.string ⟨#[]⟩)).setCell ⟨w.heap.size, 8, none⟩ (.string ⟨#[]⟩)) = WX at *
   have hbx9_l := hbx9.lt; have hbx9_0 := hbx9.cell 0; have hbx9_1 := hbx9.cell 1; have hbx9_2 := hbx9.cell 2; have hbx9_3 := hbx9.cell 3; have hbx9_4 := hbx9.cell 4; have hbx9_5 := hbx9.cell 5; have hbx9_6 := hbx9.cell 6; have hbx9_7 := hbx9.cell 7; have hbx9_8 := hbx9.cell 8; simp at hbx9_0 hbx9_1 hbx9_2 hbx9_3 hbx9_4 hbx9_5 hbx9_6 hbx9_7 hbx9_8
   refine bodyPost_ret (v := .tuple #[.agg #[.string ⟨#[]⟩, .string ⟨#[]⟩, .int .i64 0, .slice none 0 0, .int .i64 0, .string ⟨#[]⟩, .string ⟨#[]⟩, .string ⟨#[]⟩, .string ⟨#[]⟩], .bool false]) (by simp only [results, Tryz.results55]; go_simp) rfl ?_
   exact ⟨by rw [hr] <;> rfl, Hb9.out⟩
end Go.Proofs.YtnocceilpnmbpaaGreatDoor
