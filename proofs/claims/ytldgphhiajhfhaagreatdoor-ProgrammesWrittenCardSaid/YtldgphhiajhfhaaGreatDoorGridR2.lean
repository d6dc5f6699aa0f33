/- The reference's parts of a programme's error: Overlaps, meets, speakers, shares, the order of sessions, the closures. -/
import Derived.Test.YtldgphhiajhfhaaGreatDoorGridR1
import Derived.Test.YtldgphhiajhfhaaGreatDoorSesSort
import Derived.Test.YtldgphhiajhfhaaGreatDoorAppAll
/-! The reference's parts of a programme's error: Overlaps, meets, speakers, shares, the order of sessions, the closures. -/
namespace Go.Proofs.YtldgphhiajhfhaaGreatDoor
open Go.RowKit
set_option linter.unusedVariables false
set_option linter.unusedSimpArgs false

/-- The first number that is not 0. -/
theorem orE_any (l : List Int) (a : Option Addr) (cap : Nat) (w : World) (hs : SA w a l) (hl : l.length ≤ 1000) :
  Calls Tryz.prog 41 #[.slice a l.length cap] w (fun e w' => e = .returned (.int .i64 (firstOf l)) ∧ w' = w) := by
 go_enter Tryz.func41, Tryz.ntmps41
 go_wp2_with fail
 go_loopg [8] l.length (fun gk i wr => ∃ k : Nat, i = .int .i64 k ∧ k ≤ l.length ∧ Hid (gk = l.length - k) ∧ Hid (firstOf l = firstOf (l.drop k)) ∧ wr = w)
 case atStart => exact ⟨0, rfl, by omega, rfl, rfl, rfl⟩
 case round =>
  obtain ⟨k, rfl, hk, hgk, hf, rfl⟩ := hrel
  by_cases hlt : k < l.length
  ·
   obtain ⟨b, off, ha, c0⟩ := hs.intT hlt
   have hdr := List.drop_eq_getElem_cons hlt
   rw [hdr] at hf
   rw [ha]
   generalize l[k] = x at *
   clear hdr
   by_cases hx : x = 0
   ·
    subst hx
    have Hf := Lib.hid (show firstOf l = firstOf (l.drop (k + 1)) by rw [hf.out]; rfl)
    clear hf
    go_wp2_with fail
    rw [← ha]
    go_roundg (l.length - (k + 1))
    case measure => have := hgk.out; omega
    case rel => exact ⟨k + 1, by go_num, by omega, rfl, Hf.out, rfl⟩
   ·
    have hx' : (x != 0) = true := by simpa using hx
    have Hf := Lib.hid (show firstOf l = x by rw [hf.out]; unfold firstOf; rw [if_pos hx])
    clear hf
    go_wp2_with fail
    go_ret
    exact ⟨by rw [Hf.out] <;> rfl, rfl⟩
  ·
   obtain rfl : k = l.length := by omega
   have Hf := Lib.hid (show firstOf l = 0 by rw [hf.out, List.drop_length]; rfl)
   clear hlt hf
   go_wp2_with fail
   go_ret
   exact ⟨by rw [Hf.out] <;> rfl, rfl⟩

def encBan (b : Ban2) : Value := .agg #[.string b.1, .string b.2]
set_option maxRecDepth 100000 in
set_option maxHeartbeats 4000000 in
theorem indexGStr_any (l : List ByteArray) (a : Option Addr) (cap g : Nat) (lb : Array Value) (c : ByteArray → Bool) (w : World) (eg : ∀ args w, (callFunc g args).run Tryz.prog w = .ok (.enter g args) w) (h : SA w a l) (hlen : l.length ≤ 1000000000) (hc : TestAt Value.string g lb c l w) :
  Calls Tryz.prog 151 #[.slice a l.length cap, .func (.func g) #[] lb] w (fun e w' => ∃ r : Int, e = .returned (.int .i64 r) ∧ decide (0 ≤ r) = l.any c ∧ Below w.heap.size w w' ∧ r = idxI c l) := by
 have HC := Lib.hid hc
 clear hc
 go_enter Tryz.func151, Tryz.ntmps151
 go_wp2_with fail
 go_loopg [8] l.length (fun gk i wr => ∃ k : Nat, i = .int .i64 k ∧ k ≤ l.length ∧ Hid (gk = l.length - k) ∧ Hid (∀ x ∈ l.take k, c x = false) ∧ Below w.heap.size w wr)
 case atStart => exact ⟨0, rfl, by omega, rfl, fun x hx => (by cases hx), Below.refl _ _⟩
 case round =>
  obtain ⟨k, rfl, hk, hgk, hf, hb⟩ := hrel
  by_cases hlt : k < l.length
  ·
   obtain ⟨b, off, ha, c0⟩ := (h.below hb).str hlt
   have HCx := Lib.hid (HC.out l[k] (List.getElem_mem hlt) wr hb)
   have Hat := Lib.hid (any_at (c := c) hlt)
   have Htk := Lib.hid (List.take_succ_eq_append_getElem hlt)
   have Hix := Lib.hid (fun h => idxI_at (c := c) hlt h hf.out)
   have Ha := Lib.hid ha
   rw [ha]
   clear ha
   generalize l[k] = x at *
   obtain x := x
   (try simp only at *)
   have hk1 : (0 : Int) ≤ (k : Int) := by omega
   have hk2 : (k : Int) < (l.length : Int) := by omega
   obtain ⟨cx, hcx⟩ : ∃ cx, c x = cx := ⟨_, rfl⟩
   rw [hcx] at HCx Hat Hix
   have Hcx := Lib.hid hcx
   clear hcx
   go_wp2_with fail
   refine HCx.out.mono ?_
   rintro e w1 ⟨rfl, hb1⟩
   have hb1' := below_next hb hb1
   cases cx
   ·
    go_wp2_with fail
    rw [← Ha.out]
    go_roundg (l.length - (k + 1))
    case measure => have := hgk.out; omega
    case rel => exact ⟨k + 1, by go_num, by omega, rfl, by rw [Htk.out]; exact fun x hx => (List.mem_append.1 hx).elim (hf.out x) (fun h => by rw [List.mem_singleton.1 h]; exact Hcx.out), hb1'⟩
   ·
    have Hany := Lib.hid (Hat.out rfl)
    have Hr := Lib.hid (Hix.out rfl)
    go_wp2_with fail
    go_ret
    exact ⟨_, rfl, by rw [Hany.out]; exact decide_eq_true hk1, hb1', Hr.out.symm⟩
  ·
   obtain rfl : k = l.length := by omega
   have Hany := Lib.hid (any_none hf.out)
   have Hr := Lib.hid (idxI_none hf.out)
   go_wp2_with fail
   go_ret
   exact ⟨_, rfl, by rw [Hany.out]; rfl, hb, Hr.out.symm⟩
set_option maxHeartbeats 4000000 in
theorem findGStr_any (l : List ByteArray) (a : Option Addr) (cap g : Nat) (lb : Array Value) (c : ByteArray → Bool) (w : World) (eg : ∀ args w, (callFunc g args).run Tryz.prog w = .ok (.enter g args) w) (h : SA w a l) (hlen : l.length ≤ 1000000000) (hc : TestAt Value.string g lb c l w) :
  Calls Tryz.prog 125 #[.slice a l.length cap, .func (.func g) #[] lb] w (Gives (.bool (l.any c)) w) := by
 have HI := Lib.hid (indexGStr_any l a cap g lb c w eg h hlen hc)
 clear hc
 go_enter Tryz.func125, Tryz.ntmps125
 go_wp2_with fail
 refine HI.out.mono ?_
 rintro e w1 ⟨r, rfl, hr, hb, hri⟩
 clear hri
 go_wp2_with fail
 go_ret
 exact ⟨by rw [← hr] <;> rfl, hb⟩
set_option maxRecDepth 100000 in
set_option maxHeartbeats 4000000 in
theorem indexSes_any (l : List Ses) (a : Option Addr) (cap g : Nat) (lb : Array Value) (c : Ses → Bool) (w : World) (eg : ∀ args w, (callFunc g args).run Tryz.prog w = .ok (.enter g args) w) (h : SA w a l) (hlen : l.length ≤ 1000000000) (hc : TestAt Ses.agg g lb c l w) :
  Calls Tryz.prog 117 #[.slice a l.length cap, .func (.func g) #[] lb] w (fun e w' => ∃ r : Int, e = .returned (.int .i64 r) ∧ decide (0 ≤ r) = l.any c ∧ Below w.heap.size w w' ∧ r = idxI c l) := by
 have HC := Lib.hid hc
 clear hc
 go_enter Tryz.func117, Tryz.ntmps117
 go_wp2_with fail
 go_loopg [8] l.length (fun gk i wr => ∃ k : Nat, i = .int .i64 k ∧ k ≤ l.length ∧ Hid (gk = l.length - k) ∧ Hid (∀ x ∈ l.take k, c x = false) ∧ Below w.heap.size w wr)
 case atStart => exact ⟨0, rfl, by omega, rfl, fun x hx => (by cases hx), Below.refl _ _⟩
 case round =>
  obtain ⟨k, rfl, hk, hgk, hf, hb⟩ := hrel
  by_cases hlt : k < l.length
  ·
   obtain ⟨b, off, ha, c0, c1, c2⟩ := (h.below hb).sesC hlt
   have HCx := Lib.hid (HC.out l[k] (List.getElem_mem hlt) wr hb)
   have Hat := Lib.hid (any_at (c := c) hlt)
   have Htk := Lib.hid (List.take_succ_eq_append_getElem hlt)
   have Hix := Lib.hid (fun h => idxI_at (c := c) hlt h hf.out)
   have Ha := Lib.hid ha
   rw [ha]
   clear ha
   generalize l[k] = x at *
   obtain ⟨x1, x2, x3, x4, x5⟩ := x
   (try simp only at *)
   have hk1 : (0 : Int) ≤ (k : Int) := by omega
   have hk2 : (k : Int) < (l.length : Int) := by omega
   obtain ⟨cx, hcx⟩ : ∃ cx, c ⟨x1, x2, x3, x4, x5⟩ = cx := ⟨_, rfl⟩
   rw [hcx] at HCx Hat Hix
   have Hcx := Lib.hid hcx
   clear hcx
   go_wp2_with fail
   refine HCx.out.mono ?_
   rintro e w1 ⟨rfl, hb1⟩
   have hb1' := below_next hb hb1
   cases cx
   ·
    go_wp2_with fail
    rw [← Ha.out]
    go_roundg (l.length - (k + 1))
    case measure => have := hgk.out; omega
    case rel => exact ⟨k + 1, by go_num, by omega, rfl, by rw [Htk.out]; exact fun x hx => (List.mem_append.1 hx).elim (hf.out x) (fun h => by rw [List.mem_singleton.1 h]; exact Hcx.out), hb1'⟩
   ·
    have Hany := Lib.hid (Hat.out rfl)
    have Hr := Lib.hid (Hix.out rfl)
    go_wp2_with fail
    go_ret
    exact ⟨_, rfl, by rw [Hany.out]; exact decide_eq_true hk1, hb1', Hr.out.symm⟩
  ·
   obtain rfl : k = l.length := by omega
   have Hany := Lib.hid (any_none hf.out)
   have Hr := Lib.hid (idxI_none hf.out)
   go_wp2_with fail
   go_ret
   exact ⟨_, rfl, by rw [Hany.out]; rfl, hb, Hr.out.symm⟩
set_option maxHeartbeats 4000000 in
theorem findSes_any (l : List Ses) (a : Option Addr) (cap g : Nat) (lb : Array Value) (c : Ses → Bool) (w : World) (eg : ∀ args w, (callFunc g args).run Tryz.prog w = .ok (.enter g args) w) (h : SA w a l) (hlen : l.length ≤ 1000000000) (hc : TestAt Ses.agg g lb c l w) :
  Calls Tryz.prog 73 #[.slice a l.length cap, .func (.func g) #[] lb] w (Gives (.bool (l.any c)) w) := by
 have HI := Lib.hid (indexSes_any l a cap g lb c w eg h hlen hc)
 clear hc
 go_enter Tryz.func73, Tryz.ntmps73
 go_wp2_with fail
 refine HI.out.mono ?_
 rintro e w1 ⟨r, rfl, hr, hb, hri⟩
 clear hri
 go_wp2_with fail
 go_ret
 exact ⟨by rw [← hr] <;> rfl, hb⟩
set_option maxRecDepth 100000 in
set_option maxHeartbeats 4000000 in
theorem indexBan_any (l : List Ban2) (a : Option Addr) (cap g : Nat) (lb : Array Value) (c : Ban2 → Bool) (w : World) (eg : ∀ args w, (callFunc g args).run Tryz.prog w = .ok (.enter g args) w) (h : SA w a l) (hlen : l.length ≤ 1000000000) (hc : TestAt encBan g lb c l w) :
  Calls Tryz.prog 127 #[.slice a l.length cap, .func (.func g) #[] lb] w (fun e w' => ∃ r : Int, e = .returned (.int .i64 r) ∧ decide (0 ≤ r) = l.any c ∧ Below w.heap.size w w' ∧ r = idxI c l) := by
 have HC := Lib.hid hc
 clear hc
 go_enter Tryz.func127, Tryz.ntmps127
 go_wp2_with fail
 go_loopg [8] l.length (fun gk i wr => ∃ k : Nat, i = .int .i64 k ∧ k ≤ l.length ∧ Hid (gk = l.length - k) ∧ Hid (∀ x ∈ l.take k, c x = false) ∧ Below w.heap.size w wr)
 case atStart => exact ⟨0, rfl, by omega, rfl, fun x hx => (by cases hx), Below.refl _ _⟩
 case round =>
  obtain ⟨k, rfl, hk, hgk, hf, hb⟩ := hrel
  by_cases hlt : k < l.length
  ·
   obtain ⟨b, off, ha, c0, c1⟩ := (h.below hb).banC hlt
   have HCx := Lib.hid (HC.out l[k] (List.getElem_mem hlt) wr hb)
   have Hat := Lib.hid (any_at (c := c) hlt)
   have Htk := Lib.hid (List.take_succ_eq_append_getElem hlt)
   have Hix := Lib.hid (fun h => idxI_at (c := c) hlt h hf.out)
   have Ha := Lib.hid ha
   rw [ha]
   clear ha
   generalize l[k] = x at *
   obtain ⟨x1, x2⟩ := x
   (try simp only at *)
   have hk1 : (0 : Int) ≤ (k : Int) := by omega
   have hk2 : (k : Int) < (l.length : Int) := by omega
   obtain ⟨cx, hcx⟩ : ∃ cx, c ⟨x1, x2⟩ = cx := ⟨_, rfl⟩
   rw [hcx] at HCx Hat Hix
   have Hcx := Lib.hid hcx
   clear hcx
   go_wp2_with fail
   refine HCx.out.mono ?_
   rintro e w1 ⟨rfl, hb1⟩
   have hb1' := below_next hb hb1
   cases cx
   ·
    go_wp2_with fail
    rw [← Ha.out]
    go_roundg (l.length - (k + 1))
    case measure => have := hgk.out; omega
    case rel => exact ⟨k + 1, by go_num, by omega, rfl, by rw [Htk.out]; exact fun x hx => (List.mem_append.1 hx).elim (hf.out x) (fun h => by rw [List.mem_singleton.1 h]; exact Hcx.out), hb1'⟩
   ·
    have Hany := Lib.hid (Hat.out rfl)
    have Hr := Lib.hid (Hix.out rfl)
    go_wp2_with fail
    go_ret
    exact ⟨_, rfl, by rw [Hany.out]; exact decide_eq_true hk1, hb1', Hr.out.symm⟩
  ·
   obtain rfl : k = l.length := by omega
   have Hany := Lib.hid (any_none hf.out)
   have Hr := Lib.hid (idxI_none hf.out)
   go_wp2_with fail
   go_ret
   exact ⟨_, rfl, by rw [Hany.out]; rfl, hb, Hr.out.symm⟩
set_option maxHeartbeats 4000000 in
theorem findBan_any (l : List Ban2) (a : Option Addr) (cap g : Nat) (lb : Array Value) (c : Ban2 → Bool) (w : World) (eg : ∀ args w, (callFunc g args).run Tryz.prog w = .ok (.enter g args) w) (h : SA w a l) (hlen : l.length ≤ 1000000000) (hc : TestAt encBan g lb c l w) :
  Calls Tryz.prog 79 #[.slice a l.length cap, .func (.func g) #[] lb] w (Gives (.bool (l.any c)) w) := by
 have HI := Lib.hid (indexBan_any l a cap g lb c w eg h hlen hc)
 clear hc
 go_enter Tryz.func79, Tryz.ntmps79
 go_wp2_with fail
 refine HI.out.mono ?_
 rintro e w1 ⟨r, rfl, hr, hb, hri⟩
 clear hri
 go_wp2_with fail
 go_ret
 exact ⟨by rw [← hr] <;> rfl, hb⟩

set_option maxRecDepth 100000 in
set_option maxHeartbeats 2000000 in
theorem sessionOrder_any (x y : Ses) (w : World) : Calls Tryz.prog 70 #[x.agg, y.agg] w (fun e w' => e = .returned (.int .i64 (sesOrd x y)) ∧ Grw w w') := by
 obtain ⟨x1, x2, x3, x4, x5⟩ := x
 obtain ⟨y1, y2, y3, y4, y5⟩ := y
 have HC : Hid (sesOrd ⟨x1, x2, x3, x4, x5⟩ ⟨y1, y2, y3, y4, y5⟩ = firstOf [cmpS x1 y1, cmpS x2 y2]) := rfl
 have HS1 : Hid (∀ W', Calls Tryz.prog 96 #[.string x1, .string y1] W' (fun e w' => e = .returned (.int .i64 (cmpS x1 y1)) ∧ w' = W')) := fun W' => Tryz.strings_Compare x1 y1 W'
 have HS2 : Hid (∀ W', Calls Tryz.prog 96 #[.string x2, .string y2] W' (fun e w' => e = .returned (.int .i64 (cmpS x2 y2)) ∧ w' = W')) := fun W' => Tryz.strings_Compare x2 y2 W'
 generalize sesOrd ⟨x1, x2, x3, x4, x5⟩ ⟨y1, y2, y3, y4, y5⟩ = z at *
 generalize cmpS x1 y1 = c1 at *
 generalize cmpS x2 y2 = c2 at *
 have hX := (Box.new w 67 #[.string x1, .string x2, .slice x4 x3.length x5]).alloc (.cells #[.string y1, .string y2, .slice y4 y3.length y5] 67)
 have hY := Box.newAt (w.alloc (.cells #[.string x1, .string x2, .slice x4 x3.length x5] 67)) (w.heap.size + 1) 67 #[.string y1, .string y2, .slice y4 y3.length y5] (by simp)
 unfold Ses.agg
 go_enter Tryz.func70, Tryz.ntmps70
 go_upto_region 1 with (fail)
 have hG : Grw w ((w.alloc (.cells #[.string x1, .string x2, .slice x4 x3.length x5] 67)).alloc (.cells #[.string y1, .string y2, .slice y4 y3.length y5] 67)) := ((Grw.refl _).alloc _).alloc _
 generalize (w.alloc (.cells #[.string x1, .string x2, .slice x4 x3.length x5] 67)).alloc (.cells #[.string y1, .string y2, .slice y4 y3.length y5] 67) = W at *
 have hX_l := hX.lt; have hX_0 := hX.cell 0; have hX_1 := hX.cell 1; simp at hX_0 hX_1
 have hY_l := hY.lt; have hY_0 := hY.cell 0; have hY_1 := hY.cell 1; simp at hY_0 hY_1
 refine wp_region_held_drew (S := (fun wx => wx.cell? ⟨w.heap.size, 0, none⟩ = some (.string x1) ∧ wx.cell? ⟨w.heap.size, 1, none⟩ = some (.string x2) ∧ wx.cell? ⟨w.heap.size + 1, 0, none⟩ = some (.string y1) ∧ wx.cell? ⟨w.heap.size + 1, 1, none⟩ = some (.string y2) ∧ Grw W wx)) (by kernel_rfl) ?hS (fun hHeld => ?_)
 case hS => exact ⟨hX_0, hX_1, hY_0, hY_1, (Grw.refl _).drew⟩
 refine rt 0 (some 5) ?_
 refine rt 1 (some 6) ?_
 refine rt 2 (some 7) ?_
 refine rt 3 (some 8) ?_
 refine rt 5 (some 10) ?_
 refine rt 6 (some 11) ?_
 refine rt 7 (some 12) ?_
 refine rt 8 (some 13) ?_
 refine rcall (i := 4) (d := (some 9)) (by kernel_rfl) rfl (by kernel_rfl) (fun K hK => ?_)
 go_simp
 go_at_call 96; refine (HS1.out _).mono ?_; rintro e w' ⟨rfl, rfl⟩
 refine hK.out _ _ ?hS (fun hHeld => ?_)
 case hS => exact hHeld
 clear hK K
 simp only [Act.put, lsetA, lsetZ, lsetS]
 refine rcall (i := 9) (d := (some 14)) (by kernel_rfl) rfl (by kernel_rfl) (fun K hK => ?_)
 go_simp
 go_at_call 96; refine (HS2.out _).mono ?_; rintro e w' ⟨rfl, rfl⟩
 refine hK.out _ _ ?hS (fun hHeld => ?_)
 case hS => exact hHeld
 clear hK K
 simp only [Act.put, lsetA, lsetZ, lsetS]
 refine rcall (i := 10) (d := (some 15)) (by kernel_rfl) rfl (by kernel_rfl) (fun K hK => ?_)
 go_simp
 skip
 refine hK.out _ _ ?hS (fun hHeld => ?_)
 case hS => exact (have hA : ∀ (w : World) (o : Obj), Grw w (w.alloc o) := fun w o => (Grw.refl _).alloc o; ⟨cell_later (hA _ _).1 hHeld.1, cell_later (hA _ _).1 hHeld.2.1, cell_later (hA _ _).1 hHeld.2.2.1, cell_later (hA _ _).1 hHeld.2.2.2.1, hHeld.2.2.2.2.trans (hA _ _)⟩)
 clear hK K
 simp only [Act.put, lsetA, lsetZ, lsetS]
 refine rcall (i := 11) (d := (some 16)) (by kernel_rfl) rfl (by kernel_rfl) (fun K hK => ?_)
 go_simp
 go_at_call 95; refine (orI_any [c1, c2] _ 2 _ (Box.sa (by first | exact Box.new _ _ _ | exact (Box.new _ _ _).drew) [c1, c2] rfl) (by simp)).mono ?_; rintro e w' ⟨rfl, rfl⟩
 refine hK.out _ _ ?hS (fun hHeld => ?_)
 case hS => exact hHeld
 clear hK K
 simp only [Act.put, lsetA, lsetZ, lsetS]
 refine rt 12 (some 4) ?_
 refine wpAnyH_done (by kernel_rfl) ?_ _
 have hbF := hG.trans hHeld.2.2.2.2
 go_wp2_with fail
 go_ret
 exact ⟨by rw [HC.out] <;> rfl, hbF⟩
set_option maxRecDepth 100000 in
set_option maxHeartbeats 2000000 in
theorem compareSes_any (x y : Ses) (w : World) : Calls Tryz.prog 133 #[x.agg, y.agg] w (fun e w' => e = .returned (.int .i64 (sesOrd x y)) ∧ Grw w w') := by
 obtain ⟨x1, x2, x3, x4, x5⟩ := x
 obtain ⟨y1, y2, y3, y4, y5⟩ := y
 have HC : Hid (sesOrd ⟨x1, x2, x3, x4, x5⟩ ⟨y1, y2, y3, y4, y5⟩ = firstOf [cmpS x1 y1, cmpS x2 y2]) := rfl
 have HS1 : Hid (∀ W', Calls Tryz.prog 96 #[.string x1, .string y1] W' (fun e w' => e = .returned (.int .i64 (cmpS x1 y1)) ∧ w' = W')) := fun W' => Tryz.strings_Compare x1 y1 W'
 have HS2 : Hid (∀ W', Calls Tryz.prog 96 #[.string x2, .string y2] W' (fun e w' => e = .returned (.int .i64 (cmpS x2 y2)) ∧ w' = W')) := fun W' => Tryz.strings_Compare x2 y2 W'
 generalize sesOrd ⟨x1, x2, x3, x4, x5⟩ ⟨y1, y2, y3, y4, y5⟩ = z at *
 generalize cmpS x1 y1 = c1 at *
 generalize cmpS x2 y2 = c2 at *
 have hX := (Box.new w 67 #[.string x1, .string x2, .slice x4 x3.length x5]).alloc (.cells #[.string y1, .string y2, .slice y4 y3.length y5] 67)
 have hY := Box.newAt (w.alloc (.cells #[.string x1, .string x2, .slice x4 x3.length x5] 67)) (w.heap.size + 1) 67 #[.string y1, .string y2, .slice y4 y3.length y5] (by simp)
 unfold Ses.agg
 go_enter Tryz.func133, Tryz.ntmps133
 go_upto_region 1 with (fail)
 have hG : Grw w ((w.alloc (.cells #[.string x1, .string x2, .slice x4 x3.length x5] 67)).alloc (.cells #[.string y1, .string y2, .slice y4 y3.length y5] 67)) := ((Grw.refl _).alloc _).alloc _
 generalize (w.alloc (.cells #[.string x1, .string x2, .slice x4 x3.length x5] 67)).alloc (.cells #[.string y1, .string y2, .slice y4 y3.length y5] 67) = W at *
 have hX_l := hX.lt; have hX_0 := hX.cell 0; have hX_1 := hX.cell 1; simp at hX_0 hX_1
 have hY_l := hY.lt; have hY_0 := hY.cell 0; have hY_1 := hY.cell 1; simp at hY_0 hY_1
 refine wp_region_held_drew (S := (fun wx => wx.cell? ⟨w.heap.size, 0, none⟩ = some (.string x1) ∧ wx.cell? ⟨w.heap.size, 1, none⟩ = some (.string x2) ∧ wx.cell? ⟨w.heap.size + 1, 0, none⟩ = some (.string y1) ∧ wx.cell? ⟨w.heap.size + 1, 1, none⟩ = some (.string y2) ∧ Grw W wx)) (by kernel_rfl) ?hS (fun hHeld => ?_)
 case hS => exact ⟨hX_0, hX_1, hY_0, hY_1, (Grw.refl _).drew⟩
 refine rt 0 (some 5) ?_
 refine rt 1 (some 6) ?_
 refine rt 2 (some 7) ?_
 refine rt 3 (some 8) ?_
 refine rt 5 (some 10) ?_
 refine rt 6 (some 11) ?_
 refine rt 7 (some 12) ?_
 refine rt 8 (some 13) ?_
 refine rcall (i := 4) (d := (some 9)) (by kernel_rfl) rfl (by kernel_rfl) (fun K hK => ?_)
 go_simp
 go_at_call 96; refine (HS1.out _).mono ?_; rintro e w' ⟨rfl, rfl⟩
 refine hK.out _ _ ?hS (fun hHeld => ?_)
 case hS => exact hHeld
 clear hK K
 simp only [Act.put, lsetA, lsetZ, lsetS]
 refine rcall (i := 9) (d := (some 14)) (by kernel_rfl) rfl (by kernel_rfl) (fun K hK => ?_)
 go_simp
 go_at_call 96; refine (HS2.out _).mono ?_; rintro e w' ⟨rfl, rfl⟩
 refine hK.out _ _ ?hS (fun hHeld => ?_)
 case hS => exact hHeld
 clear hK K
 simp only [Act.put, lsetA, lsetZ, lsetS]
 refine rcall (i := 10) (d := (some 15)) (by kernel_rfl) rfl (by kernel_rfl) (fun K hK => ?_)
 go_simp
 skip
 refine hK.out _ _ ?hS (fun hHeld => ?_)
 case hS => exact (have hA : ∀ (w : World) (o : Obj), Grw w (w.alloc o) := fun w o => (Grw.refl _).alloc o; ⟨cell_later (hA _ _).1 hHeld.1, cell_later (hA _ _).1 hHeld.2.1, cell_later (hA _ _).1 hHeld.2.2.1, cell_later (hA _ _).1 hHeld.2.2.2.1, hHeld.2.2.2.2.trans (hA _ _)⟩)
 clear hK K
 simp only [Act.put, lsetA, lsetZ, lsetS]
 refine rcall (i := 11) (d := (some 16)) (by kernel_rfl) rfl (by kernel_rfl) (fun K hK => ?_)
 go_simp
 go_at_call 95; refine (orI_any [c1, c2] _ 2 _ (Box.sa (by first | exact Box.new _ _ _ | exact (Box.new _ _ _).drew) [c1, c2] rfl) (by simp)).mono ?_; rintro e w' ⟨rfl, rfl⟩
 refine hK.out _ _ ?hS (fun hHeld => ?_)
 case hS => exact hHeld
 clear hK K
 simp only [Act.put, lsetA, lsetZ, lsetS]
 refine rt 12 (some 4) ?_
 refine wpAnyH_done (by kernel_rfl) ?_ _
 have hbF := hG.trans hHeld.2.2.2.2
 go_wp2_with fail
 go_ret
 exact ⟨by rw [HC.out] <;> rfl, hbF⟩

set_option maxHeartbeats 1000000 in
theorem sharesClo_any (l : List ByteArray) (al : Option Addr) (capl bq : Nat) (x : ByteArray) (w : World) (hc : w.cell? ⟨bq, 0, none⟩ = some (.slice al l.length capl)) (hl : SA w al l) (hlen : l.length ≤ 1000000) :
  Calls Tryz.prog 126 #[.string x, .pointer (some ⟨bq, 0, none⟩)] w (Gives (.bool (inB l x)) w) := by
 have HT := Lib.hid (contains_any l al capl x w hl (by omega))
 have hlt := cell_lt hc
 have HB : Hid (l.any (fun y => decide (y = x)) = inB l x) := rfl
 rw [HB.out] at HT
 generalize inB l x = q at *
 go_enter Tryz.func126, Tryz.ntmps126
 go_wp2_with fail
 refine HT.out.mono ?_
 rintro e w1 ⟨rfl, rfl⟩
 go_wp2_with fail
 go_ret
 exact ⟨rfl, Below.refl _ _⟩
set_option maxRecDepth 100000 in
set_option maxHeartbeats 2000000 in
theorem shares_any (l r : List ByteArray) (la ra : Option Addr) (lc rc : Nat) (w : World) (hl : SA w la l) (hr : SA w ra r) (hll : l.length ≤ 1000000) (hrl : r.length ≤ 1000000) :
  Calls Tryz.prog 77 #[.slice la l.length lc, .slice ra r.length rc] w (Gives (.bool (sharesB l r)) w) := by
 have HT := Lib.hid (fun W b (h : Below w.heap.size w W) (hc : ∀ W', Below W.heap.size W W' → W'.cell? ⟨b, 0, none⟩ = some (.slice ra r.length rc)) => findGStr_any l la lc 126 #[.pointer (some ⟨b, 0, none⟩)] (inB r) W (enters_of Tryz.func126 (by kernel_rfl) rfl) (hl.below h) (by omega) (fun x hx W' hW' => sharesClo_any r ra rc b x W' (hc W' hW') (hr.below (below_next h hW')) hrl))
 have hX := Box.new w 57 #[.slice ra r.length rc]
 have hb0 : Below w.heap.size w (w.alloc (.cells #[.slice ra r.length rc] 57)) := (Below.refl _ _).alloc (Nat.le_refl _) _
 have HB : Hid (l.any (inB r) = sharesB l r) := rfl
 rw [HB.out] at HT
 generalize sharesB l r = q at *
 go_enter Tryz.func77, Tryz.ntmps77
 go_wp2_with fail
 refine (HT.out _ w.heap.size hb0 (fun W' h => (hX.below h).cell 0)).mono ?_
 rintro e w1 ⟨rfl, hb1⟩
 go_wp2_with fail
 go_ret
 exact ⟨rfl, below_next hb0 hb1⟩

theorem slotOut_not {s : Slt} (h : slotOut s = false) : 0 ≤ s.2.1 ∧ s.2.1 ≤ 5761440 ∧ 0 ≤ s.2.2 ∧ s.2.2 ≤ 1440 := by
 unfold slotOut at h
 simp at h
 omega
set_option maxRecDepth 100000 in
set_option maxHeartbeats 4000000 in
theorem overlapsOf_any (a b : Slt) (w : World) : Calls Tryz.prog 124 #[sltV a, sltV b] w (Gives (.bool (overlapsB a b)) w) := by
 have HT : Hid (∀ k (hk : k < [a, b].length), slotOut [a, b][k] = true → overlapsB a b = false) := fun k hk h => by
  unfold overlapsB
  rcases (show k = 0 ∨ k = 1 by simp at hk; omega) with rfl | rfl
  ·
   rw [if_pos (by simpa using h)]
  ·
   have h' : slotOut b = true := by simpa using h
   by_cases h0 : slotOut a = true
   ·
    rw [if_pos h0]
   ·
    rw [if_neg h0, if_pos h']
 have HF : Hid ((∀ k (hk : k < [a, b].length), k < 2 → slotOut [a, b][k] = false) → (overlapsB a b = (decide (a.2.1 < b.2.1 + b.2.2) && decide (b.2.1 < a.2.1 + a.2.2))) ∧ (0 ≤ a.2.1 ∧ a.2.1 ≤ 5761440 ∧ 0 ≤ a.2.2 ∧ a.2.2 ≤ 1440) ∧ (0 ≤ b.2.1 ∧ b.2.1 ≤ 5761440 ∧ 0 ≤ b.2.2 ∧ b.2.2 ≤ 1440)) := fun h => by
  have h0 : slotOut a = false := h 0 (by simp) (by omega)
  have h1 : slotOut b = false := h 1 (by simp) (by omega)
  exact ⟨by unfold overlapsB; rw [if_neg (by rw [h0]; decide), if_neg (by rw [h1]; decide)], slotOut_not h0, slotOut_not h1⟩
 generalize overlapsB a b = R at *
 obtain ⟨a1, a2, a3⟩ := a
 obtain ⟨b1, b2, b3⟩ := b
 simp only at HF
 unfold sltV
 simp only
 generalize hl : [((a1, a2, a3) : Slt), (b1, b2, b3)] = l at *
 have hl2 : l.length = 2 := by rw [← hl]; rfl
 have hX := ((Box.new w 56 #[.string a1, .int .i64 a2, .int .i64 a3]).alloc (.cells #[.string b1, .int .i64 b2, .int .i64 b3] 56)).alloc (.cells #[.string a1, .int .i64 a2, .int .i64 a3, .string b1, .int .i64 b2, .int .i64 b3] 56)
 have hY := (Box.newAt (w.alloc (.cells #[.string a1, .int .i64 a2, .int .i64 a3] 56)) (w.heap.size + 1) 56 #[.string b1, .int .i64 b2, .int .i64 b3] (by simp)).alloc (.cells #[.string a1, .int .i64 a2, .int .i64 a3, .string b1, .int .i64 b2, .int .i64 b3] 56)
 have hZ0 := Box.newAt ((w.alloc (.cells #[.string a1, .int .i64 a2, .int .i64 a3] 56)).alloc (.cells #[.string b1, .int .i64 b2, .int .i64 b3] 56)) (w.heap.size + 1 + 1) 56 #[.string a1, .int .i64 a2, .int .i64 a3, .string b1, .int .i64 b2, .int .i64 b3] (by simp)
 have hZ := Box.sa hZ0 l (by rw [← hl]; rfl)
 have hb0 : Below w.heap.size w (((w.alloc (.cells #[.string a1, .int .i64 a2, .int .i64 a3] 56)).alloc (.cells #[.string b1, .int .i64 b2, .int .i64 b3] 56)).alloc (.cells #[.string a1, .int .i64 a2, .int .i64 a3, .string b1, .int .i64 b2, .int .i64 b3] 56)) := (((Below.refl _ _).alloc (Nat.le_refl _) _).alloc (by simp) _).alloc (by simp; omega) _
 clear hl hZ0
 go_enter Tryz.func124, Tryz.ntmps124
 go_wp2_with fail
 go_loopg [11] 2 (fun gk iv wr => ∃ k : Nat, iv = .int .i64 k ∧ k ≤ 2 ∧ Hid (gk = 2 - k) ∧ Hid (∀ j (hj : j < l.length), j < k → slotOut l[j] = false) ∧ Box wr w.heap.size 56 #[.string a1, .int .i64 a2, .int .i64 a3] ∧ Box wr (w.heap.size + 1) 56 #[.string b1, .int .i64 b2, .int .i64 b3] ∧ SA wr (some ⟨w.heap.size + 1 + 1, 0, none⟩) l ∧ Below w.heap.size w wr)
 case atStart => exact ⟨0, rfl, by omega, rfl, fun j hj h => by omega, hX, hY, hZ, hb0⟩
 case round =>
  clear hX hY hZ hb0
  obtain ⟨k, rfl, hk, hgk, hf, hX, hY, hZ, hb⟩ := hrel
  by_cases hlt : k < l.length
  ·
   obtain ⟨zb, zo, ha, c0, c1, c2⟩ := hZ.sltC hlt
   cases ha
   rw [Nat.zero_add] at c0 c1 c2
   have HT2 := Lib.hid (HT.out k hlt)
   have Hst : Hid (slotOut l[k] = false → ∀ j (hj : j < l.length), j < k + 1 → slotOut l[j] = false) := fun h j hj hjk => by
    rcases Nat.lt_or_eq_of_le (Nat.le_of_lt_succ hjk) with h1 | rfl
    ·
     exact hf.out j hj h1
    ·
     exact h
   generalize l[k] = x at *
   obtain ⟨x1, x2, x3⟩ := x
   simp only at c0 c1 c2
   have hk1 : (0 : Int) ≤ (k : Int) := by omega
   have hk2 : (k : Int) < 2 := by omega
   have hzl := hY.lt
   go_upto_region 4 with (fail)
   have hb2 := hb.alloc hb.size (.cells #[.string x1, .int .i64 x2, .int .i64 x3] 56)
   have hX2 := hX.alloc (.cells #[.string x1, .int .i64 x2, .int .i64 x3] 56)
   have hY2 := hY.alloc (.cells #[.string x1, .int .i64 x2, .int .i64 x3] 56)
   have hZ2 := hZ.alloc (.cells #[.string x1, .int .i64 x2, .int .i64 x3] 56)
   have hW2 := Box.new wr 56 #[.string x1, .int .i64 x2, .int .i64 x3]
   generalize wr.heap.size = n2 at *
   clear hX hY hZ hb c0 c1 c2
   generalize wr.alloc (.cells #[.string x1, .int .i64 x2, .int .i64 x3] 56) = w2 at *
   have hW2_l := hW2.lt; have hW2_0 := hW2.cell 0; have hW2_1 := hW2.cell 1; have hW2_2 := hW2.cell 2; simp at hW2_0 hW2_1 hW2_2
   go_cut [32] (fun v wx => v = .bool (slotOut (x1, x2, x3)) ∧ ∃ n, wx = w2.drewN n)
   case first =>
    by_cases q1 : x2 < 0
    ·
     have hd1 : decide (x2 < 0) = true := decide_eq_true q1
     have Hq : Hid (slotOut (x1, x2, x3) = true) := by show _ = _; unfold slotOut; simp [q1]
     clear q1
     go_wp2_with fail
     go_meet
     exact ⟨by rw [Hq.out] <;> rfl, 0, rfl⟩
    ·
     have hd1 : decide (x2 < 0) = false := decide_eq_false q1
     by_cases q2 : 5761440 < x2
     ·
      have hd2 : decide (5761440 < x2) = true := decide_eq_true q2
      have Hq : Hid (slotOut (x1, x2, x3) = true) := by show _ = _; unfold slotOut; simp [q2]
      clear q1 q2
      go_wp2_with fail
      go_meet
      exact ⟨by rw [Hq.out] <;> rfl, 0, rfl⟩
     ·
      have hd2 : decide (5761440 < x2) = false := decide_eq_false q2
      by_cases q3 : x3 < 0
      ·
       have hd3 : decide (x3 < 0) = true := decide_eq_true q3
       have Hq : Hid (slotOut (x1, x2, x3) = true) := by show _ = _; unfold slotOut; simp [q3]
       clear q1 q2 q3
       go_wp2_with fail
       go_meet
       exact ⟨by rw [Hq.out] <;> rfl, 0, rfl⟩
      ·
       have hd3 : decide (x3 < 0) = false := decide_eq_false q3
       by_cases q4 : 1440 < x3
       ·
        have hd4 : decide (1440 < x3) = true := decide_eq_true q4
        have Hq : Hid (slotOut (x1, x2, x3) = true) := by show _ = _; unfold slotOut; simp [q4]
        clear q1 q2 q3 q4
        go_wp2_with fail
        go_meet
        exact ⟨by rw [Hq.out] <;> rfl, 0, rfl⟩
       ·
        have hd4 : decide (1440 < x3) = false := decide_eq_false q4
        have Hq : Hid (slotOut (x1, x2, x3) = false) := by show _ = _; unfold slotOut; simp [q1, q2, q3, q4]
        clear q1 q2 q3 q4
        go_wp2_with fail
        go_meet
        exact ⟨by rw [Hq.out] <;> rfl, 0, rfl⟩
   case rest =>
    obtain ⟨hso, n, rfl⟩ := hcut
    rw [hso]
    cases hob : slotOut (x1, x2, x3)
    ·
     have Hst2 := Lib.hid (Hst.out hob)
     clear Hst HT2 hso hob
     go_wp2_with fail
     go_roundg (2 - (k + 1))
     case measure => have := hgk.out; omega
     case rel => exact ⟨k + 1, by go_num, by omega, rfl, Hst2.out, hX2.drewN _, hY2.drewN _, hZ2.drewN _, below_drewN hb2 _⟩
    ·
     have Hr := Lib.hid (HT2.out hob)
     clear Hst HT2 hso hob
     go_wp2_with fail
     go_ret
     exact ⟨by rw [Hr.out] <;> rfl, below_drewN hb2 _⟩
  ·
   obtain rfl : k = 2 := by omega
   obtain ⟨hR, ⟨p1, p2, p3, p4⟩, p5, p6, p7, p8⟩ := HF.out (fun j hj hj2 => hf.out j hj hj2)
   have HR := Lib.hid hR
   have hw1 : IntKind.i64.wrap (b2 + b3) = b2 + b3 := IntWalk.i64_in _ (by omega)
   have hw2 : IntKind.i64.wrap (a2 + a3) = a2 + a3 := IntWalk.i64_in _ (by omega)
   clear hR HT HF hf hZ p1 p2 p3 p4 p5 p6 p7 p8 hl2
   have hX_l := hX.lt; have hX_0 := hX.cell 0; have hX_1 := hX.cell 1; have hX_2 := hX.cell 2; simp at hX_0 hX_1 hX_2
   have hY_l := hY.lt; have hY_0 := hY.cell 0; have hY_1 := hY.cell 1; have hY_2 := hY.cell 2; simp at hY_0 hY_1 hY_2
   by_cases q1 : a2 < b2 + b3
   ·
    have hd1 : decide (a2 < b2 + b3) = true := decide_eq_true q1
    rw [hd1] at HR
    clear q1
    by_cases q2 : b2 < a2 + a3
    ·
     have hd2 : decide (b2 < a2 + a3) = true := decide_eq_true q2
     rw [hd2] at HR
     clear q2
     go_wp2_with fail
     go_ret
     exact ⟨by rw [HR.out] <;> rfl, hb⟩
    ·
     have hd2 : decide (b2 < a2 + a3) = false := decide_eq_false q2
     rw [hd2] at HR
     clear q2
     go_wp2_with fail
     go_ret
     exact ⟨by rw [HR.out] <;> rfl, hb⟩
   ·
    have hd1 : decide (a2 < b2 + b3) = false := decide_eq_false q1
    rw [hd1] at HR
    clear q1
    go_wp2_with fail
    go_ret
    exact ⟨by rw [HR.out] <;> rfl, hb⟩
set_option maxRecDepth 100000 in
set_option maxHeartbeats 4000000 in
theorem meets_any (g : Grd) (x y : Ses) (w : World) (hg : GRd w g) (hz : GSm g) : Calls Tryz.prog 75 #[g.agg, x.agg, y.agg] w (Gives (.bool (meetsB g x y)) w) := by
 have HT := Lib.hid (fun key W (h : GRd W g) => slotOf_any g key W h (by have := hz.slots; omega))
 have HG := Lib.hid (fun W (h : Below w.heap.size w W) => hg.below h)
 have HO := Lib.hid (fun a b W => overlapsOf_any a b W)
 have HR : Hid (meetsB g x y = overlapsB (slotOr g x.slot) (slotOr g y.slot)) := rfl
 clear hz hg
 generalize meetsB g x y = R at *
 rw [Grd.agg_eq] at HT ⊢
 obtain ⟨x1, x2, x3, x4, x5⟩ := x
 obtain ⟨y1, y2, y3, y4, y5⟩ := y
 simp only at HR
 unfold Ses.agg
 have hX := ((Box.new w 32 #[.slice g.ra g.rooms.length g.rc, .slice g.sa g.slots.length g.sc, .slice g.ta g.talks.length g.tc, .slice g.wa g.wishes.length g.wc, .slice g.ba g.bans.length g.bc]).alloc (.cells #[.string x1, .string x2, .slice x4 x3.length x5] 67)).alloc (.cells #[.string y1, .string y2, .slice y4 y3.length y5] 67)
 have hY := (Box.newAt (w.alloc (.cells #[.slice g.ra g.rooms.length g.rc, .slice g.sa g.slots.length g.sc, .slice g.ta g.talks.length g.tc, .slice g.wa g.wishes.length g.wc, .slice g.ba g.bans.length g.bc] 32)) (w.heap.size + 1) 67 #[.string x1, .string x2, .slice x4 x3.length x5] (by simp)).alloc (.cells #[.string y1, .string y2, .slice y4 y3.length y5] 67)
 have hZ := Box.newAt ((w.alloc (.cells #[.slice g.ra g.rooms.length g.rc, .slice g.sa g.slots.length g.sc, .slice g.ta g.talks.length g.tc, .slice g.wa g.wishes.length g.wc, .slice g.ba g.bans.length g.bc] 32)).alloc (.cells #[.string x1, .string x2, .slice x4 x3.length x5] 67)) (w.heap.size + 1 + 1) 67 #[.string y1, .string y2, .slice y4 y3.length y5] (by simp)
 have hb0 : Below w.heap.size w (((w.alloc (.cells #[.slice g.ra g.rooms.length g.rc, .slice g.sa g.slots.length g.sc, .slice g.ta g.talks.length g.tc, .slice g.wa g.wishes.length g.wc, .slice g.ba g.bans.length g.bc] 32)).alloc (.cells #[.string x1, .string x2, .slice x4 x3.length x5] 67)).alloc (.cells #[.string y1, .string y2, .slice y4 y3.length y5] 67)) := (((Below.refl _ _).alloc (Nat.le_refl _) _).alloc (by simp) _).alloc (by simp; omega) _
 go_enter Tryz.func75, Tryz.ntmps75
 go_upto_region 1 with (fail)
 generalize ((w.alloc (.cells #[.slice g.ra g.rooms.length g.rc, .slice g.sa g.slots.length g.sc, .slice g.ta g.talks.length g.tc, .slice g.wa g.wishes.length g.wc, .slice g.ba g.bans.length g.bc] 32)).alloc (.cells #[.string x1, .string x2, .slice x4 x3.length x5] 67)).alloc (.cells #[.string y1, .string y2, .slice y4 y3.length y5] 67) = W at *
 have hX_l := hX.lt; have hX_0 := hX.cell 0; have hX_1 := hX.cell 1; have hX_2 := hX.cell 2; have hX_3 := hX.cell 3; have hX_4 := hX.cell 4; simp at hX_0 hX_1 hX_2 hX_3 hX_4
 have hY_l := hY.lt; have hY_0 := hY.cell 0; have hY_1 := hY.cell 1; have hY_2 := hY.cell 2; simp at hY_0 hY_1 hY_2
 go_wp2_with fail
 refine (HT.out x1 _ (HG.out _ hb0)).mono ?_
 rintro e w1 ⟨rfl, hb1⟩
 unfold slotV sltV
 generalize slotOr g x1 = sx at *
 obtain ⟨s1, s2, s3⟩ := sx
 simp only
 have hb1' := (below_next hb0 hb1).alloc (below_next hb0 hb1).size (.cells #[.string s1, .int .i64 s2, .int .i64 s3] 56)
 have hX1 := (hX.below hb1).alloc (.cells #[.string s1, .int .i64 s2, .int .i64 s3] 56)
 have hZ1 := (hZ.below hb1).alloc (.cells #[.string s1, .int .i64 s2, .int .i64 s3] 56)
 have hS1 := Box.new w1 56 #[.string s1, .int .i64 s2, .int .i64 s3]
 have hn1 := (below_next hb0 hb1).size
 clear hX_l hX_0 hX_1 hX_2 hX_3 hX_4
 clear hY_l hY_0 hY_1 hY_2
 go_upto_region 2 with (fail)
 clear hX hY hZ hb0 hb1
 generalize w1.alloc (.cells #[.string s1, .int .i64 s2, .int .i64 s3] 56) = w2 at *
 have hX1_l := hX1.lt; have hX1_0 := hX1.cell 0; have hX1_1 := hX1.cell 1; have hX1_2 := hX1.cell 2; have hX1_3 := hX1.cell 3; have hX1_4 := hX1.cell 4; simp at hX1_0 hX1_1 hX1_2 hX1_3 hX1_4
 have hZ1_l := hZ1.lt; have hZ1_0 := hZ1.cell 0; have hZ1_1 := hZ1.cell 1; have hZ1_2 := hZ1.cell 2; simp at hZ1_0 hZ1_1 hZ1_2
 go_wp2_with fail
 refine (HT.out y1 _ (HG.out _ hb1')).mono ?_
 rintro e w3 ⟨rfl, hb3⟩
 unfold slotV sltV
 generalize slotOr g y1 = sy at *
 obtain ⟨r1, r2, r3⟩ := sy
 simp only
 have hb3' := (below_next hb1' hb3).alloc (below_next hb1' hb3).size (.cells #[.string r1, .int .i64 r2, .int .i64 r3] 56)
 have hS3 := (hS1.below hb3).alloc (.cells #[.string r1, .int .i64 r2, .int .i64 r3] 56)
 have hQ3 := Box.new w3 56 #[.string r1, .int .i64 r2, .int .i64 r3]
 clear hX1_l hX1_0 hX1_1 hX1_2 hX1_3 hX1_4
 clear hZ1_l hZ1_0 hZ1_1 hZ1_2
 go_upto_region 3 with (fail)
 generalize w3.alloc (.cells #[.string r1, .int .i64 r2, .int .i64 r3] 56) = w4 at *
 have hS3_l := hS3.lt; have hS3_0 := hS3.cell 0; have hS3_1 := hS3.cell 1; have hS3_2 := hS3.cell 2; simp at hS3_0 hS3_1 hS3_2
 have hQ3_l := hQ3.lt; have hQ3_0 := hQ3.cell 0; have hQ3_1 := hQ3.cell 1; have hQ3_2 := hQ3.cell 2; simp at hQ3_0 hQ3_1 hQ3_2
 go_wp2_with fail
 refine (HO.out (s1, s2, s3) (r1, r2, r3) _).mono ?_
 rintro e w5 ⟨rfl, hb5⟩
 go_wp2_with fail
 go_ret
 exact ⟨by rw [HR.out] <;> rfl, below_next hb3' hb5⟩
end Go.Proofs.YtldgphhiajhfhaaGreatDoor

/-! The reference: the speakers of a session, and the closures of a programme's error. -/
namespace Go.Proofs.YtldgphhiajhfhaaGreatDoor
open Go.RowKit
set_option linter.unusedVariables false
set_option linter.unusedSimpArgs false

theorem speakers_succ (g : Grd) (l : List ByteArray) {k : Nat} (h : k < l.length) : (l.take (k + 1)).flatMap (talkSp g) = (l.take k).flatMap (talkSp g) ++ (talkOr g l[k]).speakers := by
 rw [List.take_succ_eq_append_getElem h, List.flatMap_append]
 simp [talkSp_or]
theorem speakers_len {g : Grd} (h : GSm g) : ∀ l : List ByteArray, (l.flatMap (talkSp g)).length ≤ 1000 * l.length
 | [] => by simp
 | x :: r => by
  rw [List.flatMap_cons, List.length_append, List.length_cons, talkSp_or]
  have h1 := (talkOr_ok h x).2.1
  have h2 := speakers_len h r
  omega
set_option maxRecDepth 100000 in
set_option maxHeartbeats 4000000 in
theorem speakersOf_any (g : Grd) (s : Ses) (w : World) (hg : GRd w g) (hz : GSm g) (hs : SA w s.a1 s.papers) (hl : s.papers.length ≤ 1000) :
  Calls Tryz.prog 78 #[g.agg, s.agg] w (fun e w' => ∃ v, e = .returned v ∧ Own w.heap.size 9 w' v (speakersOf g s) ∧ Below w.heap.size w w') := by
 have HT := Lib.hid (fun key W (h : GRd W g) => talkOf_any g key W h (by have := hz.talks; omega))
 have HG := Lib.hid (fun W (h : Below w.heap.size w W) => hg.below h)
 have HL := Lib.hid (fun l => speakers_len hz l)
 have HO := Lib.hid (fun x => talkOr_ok hz x)
 have HR : Hid (speakersOf g s = (s.papers.take s.papers.length).flatMap (talkSp g)) := by show _ = _; rw [List.take_length]; rfl
 clear hz hg
 generalize speakersOf g s = R at *
 rw [Grd.agg_eq] at HT ⊢
 obtain ⟨x1, x2, ps, x4, x5⟩ := s
 simp only at HR hs hl
 unfold Ses.agg
 have hX := (Box.new w 32 #[.slice g.ra g.rooms.length g.rc, .slice g.sa g.slots.length g.sc, .slice g.ta g.talks.length g.tc, .slice g.wa g.wishes.length g.wc, .slice g.ba g.bans.length g.bc]).alloc (.cells #[.string x1, .string x2, .slice x4 ps.length x5] 67)
 have hY := Box.newAt (w.alloc (.cells #[.slice g.ra g.rooms.length g.rc, .slice g.sa g.slots.length g.sc, .slice g.ta g.talks.length g.tc, .slice g.wa g.wishes.length g.wc, .slice g.ba g.bans.length g.bc] 32)) (w.heap.size + 1) 67 #[.string x1, .string x2, .slice x4 ps.length x5] (by simp)
 have hb0 : Below w.heap.size w ((w.alloc (.cells #[.slice g.ra g.rooms.length g.rc, .slice g.sa g.slots.length g.sc, .slice g.ta g.talks.length g.tc, .slice g.wa g.wishes.length g.wc, .slice g.ba g.bans.length g.bc] 32)).alloc (.cells #[.string x1, .string x2, .slice x4 ps.length x5] 67)) := ((Below.refl _ _).alloc (Nat.le_refl _) _).alloc (by simp) _
 go_enter Tryz.func78, Tryz.ntmps78
 have hY_l := hY.lt; have hY_0 := hY.cell 0; have hY_1 := hY.cell 1; have hY_2 := hY.cell 2; simp at hY_0 hY_1 hY_2
 go_wp2_with fail
 clear hY_l hY_0 hY_1 hY_2
 clear hY
 go_loopg [5, 13] ps.length (fun gk v' iv wr => ∃ (k : Nat) (v : Value), v = v' ∧ iv = .int .i64 k ∧ k ≤ ps.length ∧ Hid (gk = ps.length - k) ∧ Own (w.heap.size + 2) 9 wr v ((ps.take k).flatMap (talkSp g)) ∧ w.heap.size + 2 ≤ wr.heap.size ∧ Box wr w.heap.size 32 #[.slice g.ra g.rooms.length g.rc, .slice g.sa g.slots.length g.sc, .slice g.ta g.talks.length g.tc, .slice g.wa g.wishes.length g.wc, .slice g.ba g.bans.length g.bc] ∧ Below w.heap.size w wr)
 case atStart => exact ⟨0, _, rfl, rfl, by omega, rfl, Own.nil _ _ _, by simp, hX, hb0⟩
 case round =>
  clear hX hb0
  obtain ⟨k, v, rfl, rfl, hk, hgk, hown, hzr, hX, hb⟩ := hrel
  by_cases hlt : k < ps.length
  ·
   obtain ⟨b, off, ha, c0⟩ := (hs.below hb).str hlt
   have Hsu := Lib.hid (speakers_succ g ps hlt)
   have hbd := HL.out (ps.take k)
   rw [List.length_take] at hbd
   generalize (ps.take k).flatMap (talkSp g) = acc at *
   have hok := HO.out ps[k]
   have Ha := Lib.hid ha
   rw [ha]
   clear ha
   generalize ps[k] = x at *
   have hX_l := hX.lt; have hX_0 := hX.cell 0; have hX_1 := hX.cell 1; have hX_2 := hX.cell 2; have hX_3 := hX.cell 3; have hX_4 := hX.cell 4; simp at hX_0 hX_1 hX_2 hX_3 hX_4
   go_wp2_with fail
   clear hX_l hX_0 hX_1 hX_2 hX_3 hX_4
   refine (HT.out x _ (HG.out _ hb)).mono ?_
   rintro e w1 ⟨rfl, hb1⟩
   have hrd := (talkOr_rd (HG.out _ (below_next hb hb1)) x).1
   unfold talkV
   generalize talkOr g x = t at *
   obtain ⟨t1, t2, t3, t4, t5, t6, t7, t8⟩ := t
   unfold Tlk.agg
   obtain ⟨-, hok2, -⟩ := hok
   simp only at hrd hok2 Hsu
   have hb1' := (below_next hb hb1).alloc (below_next hb hb1).size (.cells #[.string t1, .slice t5 t2.length t6, .slice t7 t3.length t8, .int .i64 t4] 60)
   have hX1 := (hX.below hb1).alloc (.cells #[.string t1, .slice t5 t2.length t6, .slice t7 t3.length t8, .int .i64 t4] 60)
   have hown1 := (hown.below hb1).alloc (.cells #[.string t1, .slice t5 t2.length t6, .slice t7 t3.length t8, .int .i64 t4] 60)
   have hts := hrd.alloc (.cells #[.string t1, .slice t5 t2.length t6, .slice t7 t3.length t8, .int .i64 t4] 60)
   have hT1 := Box.new w1 60 #[.string t1, .slice t5 t2.length t6, .slice t7 t3.length t8, .int .i64 t4]
   have hol := hown1.lt
   clear hX hown hb hrd
   go_upto_region 6 with (fail)
   have hz0 := hb1.size
   have hz1 : w.heap.size + 2 ≤ (w1.alloc (.cells #[.string t1, .slice t5 t2.length t6, .slice t7 t3.length t8, .int .i64 t4] 60)).heap.size := by simp; omega
   generalize w1.alloc (.cells #[.string t1, .slice t5 t2.length t6, .slice t7 t3.length t8, .int .i64 t4] 60) = w2 at *
   have hT1_l := hT1.lt; have hT1_0 := hT1.cell 0; have hT1_1 := hT1.cell 1; have hT1_2 := hT1.cell 2; have hT1_3 := hT1.cell 3; simp at hT1_0 hT1_1 hT1_2 hT1_3
   go_wp2_with (at_builtin; refine wpList_append_all (α := ByteArray) rfl _ _ 57 rfl 9 16 (.string ⟨#[]⟩) Tryz.underlying57 Tryz.infoString rfl v acc rfl hown1 t2 t5 t6 rfl hts (by omega) (by omega) (by omega) ?_; intro v5 w5 hown5 hg5)
   have hz5 := ((Kp.refl (fun j => v.ownBlock = some j) w2).grown hg5 (fun j hj => .inl hj)).size
   have hb5 := hb1'.grown hg5 (by omega) (fun j hj => by have := (hol j hj).1; omega)
   have hX5 := hX1.kp ((Kp.refl (fun j => v.ownBlock = some j) _).grown hg5 (fun j hj => .inl hj)) (fun e => by have := (hol _ e).1; omega)
   rw [← Hsu.out] at hown5
   rw [← Ha.out]
   (try go_wp2_with fail)
   go_roundg (ps.length - (k + 1))
   case measure => have := hgk.out; omega
   case rel => exact ⟨k + 1, _, rfl, by go_num, by omega, rfl, hown5, by omega, hX5, hb5⟩
  ·
   obtain rfl : k = ps.length := by omega
   rw [← HR.out] at hown
   go_wp2_with fail
   go_ret
   exact ⟨_, rfl, hown.mono (by omega), hb⟩
end Go.Proofs.YtldgphhiajhfhaaGreatDoor
