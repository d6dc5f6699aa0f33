/- Wins and points: the plain laws. -/
import Derived.Test.YtcjcdbhobehlpaaGreatDoorStrict
import Derived.Test.YtcjcdbhobehlpaaGreatDoorKap
/-! Wins and points: the plain laws. -/
namespace Go.Proofs.YtcjcdbhobehlpaaGreatDoor
open Go.RowKit Go.Sort
set_option linter.unusedVariables false
set_option linter.unusedSimpArgs false

/-- A person gave the first paper more. -/
def winB (l : List Mark) (a b h : ByteArray) : Bool :=
 match scOf l a h, scOf l b h with
 | some i, some k => decide (k < i)
 | _, _ => false
/-- How many persons gave the first paper more. -/
def winsN (l : List Mark) (a b : ByteArray) : Int := ((keysOf (fun x => x.2.1) l).countP (winB l a b) : Nat)
theorem winsN_bd (l : List Mark) (a b : ByteArray) : 0 ≤ winsN l a b ∧ winsN l a b ≤ l.length := by
 unfold winsN
 have h1 := List.countP_le_length (l := keysOf (fun x => x.2.1) l) (p := winB l a b)
 have h2 := keysOf_length (fun x => x.2.1) l
 omega
theorem ofP_people {l : List Mark} (h : marksFault l = 0) (a : ByteArray) : ((ofP l a).map (fun m => m.2.1)).Nodup := by
 have h1 := (fault_rise h).filter (fun x => decide (x.1 = a))
 have h2 : (l.filter (fun x => decide (x.1 = a))).Pairwise (fun x y => x.2.1 ≠ y.2.1) := by
  refine List.Pairwise.imp_of_mem ?_ h1
  intro x y hx hy hlt e
  have ex := (List.mem_filter.1 hx).2
  have ey := (List.mem_filter.1 hy).2
  simp at ex ey
  exact ltP_ne hlt (ex.trans ey.symm) e
 exact List.pairwise_map.2 h2
theorem countP_perm_mem {ps qs : List ByteArray} (f : ByteArray → Bool) (h1 : ps.Nodup) (h2 : qs.Nodup) (h : ∀ p, f p = true → (p ∈ ps ↔ p ∈ qs)) : ps.countP f = qs.countP f := by
 rw [List.countP_eq_length_filter, List.countP_eq_length_filter]
 refine List.Perm.length_eq ?_
 refine (List.perm_ext_iff_of_nodup (h1.filter _) (h2.filter _)).2 fun p => ?_
 rw [List.mem_filter, List.mem_filter]
 constructor
 ·
  rintro ⟨ha, hb⟩; exact ⟨(h p hb).1 ha, hb⟩
 ·
  rintro ⟨ha, hb⟩; exact ⟨(h p hb).2 ha, hb⟩
/-- The wins, counted along the first paper's marks. -/
theorem winsN_marks {l : List Mark} (h : marksFault l = 0) (a b : ByteArray) : winsN l a b = ((ofP l a).countP (fun m => winB l a b m.2.1) : Nat) := by
 have e : (ofP l a).countP (fun m => winB l a b m.2.1) = ((ofP l a).map (fun m => m.2.1)).countP (winB l a b) := by rw [List.countP_map]; rfl
 unfold winsN
 rw [e]
 congr 1
 refine countP_perm_mem _ (keysS_rise _).nodup (ofP_people h a) fun p hp => ?_
 rw [keysOf_mem, List.mem_map]
 constructor
 ·
  intro _
  unfold winB at hp
  cases h1 : scOf l a p with
  | none => rw [h1] at hp; simp at hp
  | some i => exact ⟨(a, p, i), ofP_mem.2 ⟨scOf_some h1, rfl⟩, rfl⟩
 ·
  rintro ⟨m, hm, rfl⟩
  exact ⟨m, (ofP_mem.1 hm).1, rfl⟩
theorem count_uniq (h : ByteArray) (q : Mark → Bool) : ∀ ms : List Mark, (ms.map (fun m => m.2.1)).Nodup → ms.countP (fun m => decide (m.2.1 = h) && q m) = (match ms.find? (fun m => decide (m.2.1 = h)) with | some m => if q m = true then 1 else 0 | none => 0)
 | [], _ => rfl
 | x :: r, hn => by
  rw [List.map_cons, List.nodup_cons] at hn
  rw [List.countP_cons, List.find?_cons, count_uniq h q r hn.2]
  by_cases hx : x.2.1 = h
  ·
   have hno : r.find? (fun m => decide (m.2.1 = h)) = none := by
    rw [List.find?_eq_none]
    intro y hy e
    exact hn.1 (List.mem_map.2 ⟨y, hy, by rw [hx]; simpa using e⟩)
   rw [hno]
   simp [hx]
  ·
   simp [hx]
theorem find_ofP (l : List Mark) (b h : ByteArray) : ((ofP l b).find? (fun m => decide (m.2.1 = h))).map (fun m => m.2.2) = scOf l b h := by
 unfold scOf ofP sel
 rw [List.find?_filter]
 have e : (fun m : Mark => decide (decide (m.1 = b) = true ∧ decide (m.2.1 = h) = true)) = (fun m => decide (m.1 = b) && decide (m.2.1 = h)) := by funext m; rw [Bool.eq_iff_iff]; simp
 rw [e]
/-- One mark of the first paper against all of the second. -/
theorem win_one {l : List Mark} (h : marksFault l = 0) {a b : ByteArray} {x : Mark} (hx : x ∈ ofP l a) : (ofP l b).countP (fun y => decide (y.2.1 = x.2.1) && decide (y.2.2 < x.2.2)) = if winB l a b x.2.1 = true then 1 else 0 := by
 obtain ⟨hxl, hxa⟩ := ofP_mem.1 hx
 have hsc := scOf_mem h hxl
 rw [hxa] at hsc
 rw [count_uniq x.2.1 (fun y => decide (y.2.2 < x.2.2)) _ (ofP_people h b)]
 unfold winB
 rw [hsc, ← find_ofP l b x.2.1]
 cases (ofP l b).find? (fun m => decide (m.2.1 = x.2.1)) with
 | none => rfl
 | some y => rfl
theorem countP_snoc {α : Type} (p : α → Bool) (l : List α) (x : α) : (l ++ [x]).countP p = l.countP p + if p x = true then 1 else 0 := by
 rw [List.countP_append, List.countP_cons]; simp

/-- The points of one mark, against the person's marks of other papers. -/
def ptsI (l : List Mark) (p : ByteArray) (m : Mark) : Int := ((rest l m.2.1 p).map (fun o => 1 + cmpI m.2.2 o.2.2)).sum
def ptsS (sc : Int) (ms : List Mark) : Int := (ms.map (fun o => 1 + cmpI sc o.2.2)).sum
theorem ptsS_snoc (sc : Int) (ms : List Mark) (x : Mark) : ptsS sc (ms ++ [x]) = ptsS sc ms + (1 + cmpI sc x.2.2) := by unfold ptsS; simp
theorem ptsS_bd (sc : Int) : ∀ ms : List Mark, 0 ≤ ptsS sc ms ∧ ptsS sc ms ≤ 2 * ms.length
 | [] => by simp [ptsS]
 | x :: r => by
  have ih := ptsS_bd sc r
  have hb := cmpI_bd sc x.2.2
  have e : ptsS sc (x :: r) = (1 + cmpI sc x.2.2) + ptsS sc r := by unfold ptsS; rw [List.map_cons, List.sum_cons]
  rw [e, List.length_cons]
  omega
/-- The points of marks (of a paper), and how many there could be. -/
def ptsN (l : List Mark) (p : ByteArray) (ms : List Mark) : Int := (ms.map (fun m => ptsS m.2.2 (rest l m.2.1 p))).sum
def ptsM (l : List Mark) (p : ByteArray) (ms : List Mark) : Int := (ms.map (fun m => ((rest l m.2.1 p).length : Int))).sum
theorem ptsN_snoc (l : List Mark) (p : ByteArray) (ms : List Mark) (x : Mark) : ptsN l p (ms ++ [x]) = ptsN l p ms + ptsS x.2.2 (rest l x.2.1 p) := by unfold ptsN; simp
theorem ptsM_snoc (l : List Mark) (p : ByteArray) (ms : List Mark) (x : Mark) : ptsM l p (ms ++ [x]) = ptsM l p ms + (rest l x.2.1 p).length := by unfold ptsM; simp
theorem pts_bd (l : List Mark) (hl : l.length ≤ 400) (p : ByteArray) : ∀ ms : List Mark, 0 ≤ ptsN l p ms ∧ ptsN l p ms ≤ 800 * ms.length ∧ 0 ≤ ptsM l p ms ∧ ptsM l p ms ≤ 400 * ms.length ∧ ptsN l p ms ≤ 2 * ptsM l p ms
 | [] => by simp [ptsN, ptsM]
 | x :: r => by
  have ih := pts_bd l hl p r
  have h1 := ptsS_bd x.2.2 (rest l x.2.1 p)
  have h2 := rest_len l x.2.1 p
  have e1 : ptsN l p (x :: r) = ptsS x.2.2 (rest l x.2.1 p) + ptsN l p r := by unfold ptsN; rw [List.map_cons, List.sum_cons]
  have e2 : ptsM l p (x :: r) = ((rest l x.2.1 p).length : Int) + ptsM l p r := by unfold ptsM; rw [List.map_cons, List.sum_cons]
  rw [e1, e2, List.length_cons]
  omega
theorem rest_sel (l : List Mark) (a p : ByteArray) : rest l a p = (sel (fun x => x.2.1) a l).filter (fun x => !decide (x.1 = p)) := by
 unfold rest sel; rw [List.filter_filter]
 apply List.filter_congr
 intro x _
 rw [Bool.and_comm]
/-- The levels of all papers. -/
def pointsL (l : List Mark) (ks : List ByteArray) : List Skill := ks.map (fun p => (p, ptsN l p (ofP l p)))
theorem pointsL_snoc (l : List Mark) (ks : List ByteArray) (p : ByteArray) : pointsL l (ks ++ [p]) = pointsL l ks ++ [(p, ptsN l p (ofP l p))] := by unfold pointsL; simp
end Go.Proofs.YtcjcdbhobehlpaaGreatDoor

/-! Wins: of the program, of the reference. -/
namespace Go.Proofs.YtcjcdbhobehlpaaGreatDoor
open Go.RowKit Go.Sort
set_option linter.unusedVariables false
set_option linter.unusedSimpArgs false

set_option maxRecDepth 100000 in
set_option maxHeartbeats 2000000 in
theorem wins_any (sb b1 b2 base : Nat) (a : Option Addr) (cap : Nat) (l : List Mark) (es1 es2 : List (ByteArray × Value)) (w : World) (hst : ShSt sb b1 b2 base a l.length cap l l es1 es2 w) (h0 : marksFault l = 0) (hl : l.length ≤ 400) (pa pb : ByteArray) :
  Calls Tryz.prog 29 #[.pointer (some ⟨sb, 0, none⟩), .string pa, .string pb] w (Gives (.int .i64 (winsN l pa pb)) w) := by
 have HW := Lib.hid (winsN_marks h0 pa pb)
 have hwb := winsN_bd l pa pb
 generalize winsN l pa pb = wn at *
 have hS := hst.box
 have hlkA := hst.one.look pa
 have hvalA := hst.one.vals pa
 obtain ⟨av, capv, hv, hsav, _, _⟩ := hvalA.sa
 rw [hv] at hlkA
 have hvalB := hst.one.vals pb
 obtain ⟨bv, capb, hvb, hsbv, _, _⟩ := hvalB.sa
 have hmA : (sel (fun x => x.1) pa l).length ≤ 12 := paper_few h0 pa
 have hmB : (sel (fun x => x.1) pb l).length ≤ 12 := paper_few h0 pb
 have HWO : Hid (∀ x ∈ ofP l pa, (ofP l pb).countP (fun y => decide (y.2.1 = x.2.1) && decide (y.2.2 < x.2.2)) = if winB l pa pb x.2.1 = true then 1 else 0) := fun x hx => win_one h0 hx
 unfold ofP at HWO HW
 clear hvalA hvalB hv
 have hlkB0 := hst.one.look pb
 rw [hvb] at hlkB0
 have HLB : Hid (∀ W, Below w.heap.size w W → (Instr.lookup 59 (.map (some b1)) (.string pb) false).run Tryz.prog W = .ok (.slice bv (sel (fun x => x.1) pb l).length capb) W) := fun W hW => by rw [(hst.below hW).one.look pb, hvb]
 clear hvb hlkB0
 generalize sel (fun x => x.1) pa l = ms at *
 generalize sel (fun x => x.1) pb l = bs at *
 have hS_l := hS.lt; have hS_0 := hS.cell 0; have hS_1 := hS.cell 1; have hS_2 := hS.cell 2; simp at hS_0 hS_1 hS_2
 go_enter Tryz.func29, Tryz.ntmps29
 go_wp2_with fail
 clear hS_l hS_0 hS_1 hS_2
 clear hlkA
 go_loopg [7, 19] ms.length (fun gk nv i wr => ∃ k : Nat, i = .int .i64 k ∧ k ≤ ms.length ∧ Hid (gk = ms.length - k) ∧ nv = .int .i64 ((ms.take k).countP (fun m => winB l pa pb m.2.1) : Nat) ∧ Below w.heap.size w wr)
 case atStart => exact ⟨0, rfl, by omega, rfl, rfl, Below.refl _ _⟩
 obtain ⟨k, rfl, hk, hgk, rfl, hb⟩ := hrel
 have hzr := hb.size
 by_cases hlt : k < ms.length
 ·
  obtain ⟨mb, moff, ha', c0, c1, c2⟩ := (hsav.below hb).mark hlt
  have htake := List.take_succ_eq_append_getElem hlt
  have Hsn := Lib.hid (countP_snoc (fun m => winB l pa pb m.2.1) (ms.take k) ms[k])
  rw [← htake] at Hsn
  have HWx := Lib.hid (HWO.out ms[k] (List.getElem_mem hlt))
  have hcl := List.countP_le_length (l := ms.take k) (p := fun m => winB l pa pb m.2.1)
  rw [List.length_take] at hcl
  have HA := Lib.hid ha'
  rw [ha']
  generalize hx : ms[k] = x at *
  obtain ⟨x1, x2, x3⟩ := x
  simp only at c0 c1 c2 Hsn HWx
  clear hx htake ha'
  generalize (ms.take k).countP (fun m => winB l pa pb m.2.1) = n0 at *
  have hbt : Below w.heap.size w (wr.alloc (.cells #[.string x1, .string x2, .int .i64 x3] 51)) := hb.alloc hzr _
  have hT := Box.new wr 51 #[.string x1, .string x2, .int .i64 x3]
  have hlkB := HLB.out _ hbt
  have hS2 := hS.below hbt
  generalize hWv : wr.alloc (.cells #[.string x1, .string x2, .int .i64 x3] 51) = wv at *
  generalize htb : wr.heap.size = tb at *
  have hS2_l := hS2.lt; have hS2_0 := hS2.cell 0; have hS2_1 := hS2.cell 1; have hS2_2 := hS2.cell 2; simp at hS2_0 hS2_1 hS2_2
  go_upto_region 5 with (fail)
  (try simp only [hWv, htb])
  clear hWv htb hb c0 c1 c2
  go_wp2_with fail
  clear hS2_l hS2_0 hS2_1 hS2_2
  clear hlkB hS2
  go_loopg [7, 30] bs.length (fun gk nv i wx => ∃ j : Nat, i = .int .i64 j ∧ j ≤ bs.length ∧ Hid (gk = bs.length - j) ∧ nv = .int .i64 ((n0 + (bs.take j).countP (fun y => decide (y.2.1 = x2) && decide (y.2.2 < x3)) : Nat)) ∧ Below wv.heap.size wv wx)
  case atStart => exact ⟨0, rfl, by omega, rfl, rfl, Below.refl _ _⟩
  obtain ⟨j, rfl, hj, hgj, rfl, hbx⟩ := hrel
  have hzx := hbx.size
  by_cases hjl : j < bs.length
  ·
   obtain ⟨nb, noff, hb', d0, d1, d2⟩ := ((hsbv.below hbt).below hbx).mark hjl
   have htake := List.take_succ_eq_append_getElem hjl
   have Hsj := Lib.hid (countP_snoc (fun y : Mark => decide (y.2.1 = x2) && decide (y.2.2 < x3)) (bs.take j) bs[j])
   rw [← htake] at Hsj
   have hcj := List.countP_le_length (l := bs.take j) (p := fun y : Mark => decide (y.2.1 = x2) && decide (y.2.2 < x3))
   rw [List.length_take] at hcj
   have HB := Lib.hid hb'
   rw [hb']
   generalize hy : bs[j] = y at *
   obtain ⟨y1, y2, y3⟩ := y
   simp only at d0 d1 d2 Hsj
   clear hy htake hb'
   generalize (bs.take j).countP (fun y => decide (y.2.1 = x2) && decide (y.2.2 < x3)) = c0 at *
   have hTx := hT.below hbx
   have hbu : Below wv.heap.size wv (wr.alloc (.cells #[.string y1, .string y2, .int .i64 y3] 51)) := hbx.alloc hzx _
   have hTx_l := hTx.lt; have hTx_0 := hTx.cell 0; have hTx_1 := hTx.cell 1; have hTx_2 := hTx.cell 2; simp at hTx_0 hTx_1 hTx_2
   by_cases hp : y2 = x2
   ·
    have e1 := tl_eq hp.symm
    by_cases hc : y3 < x3
    ·
     have Hs2 := Lib.hid (Hsj.out.trans (by rw [if_pos (by simp [hp, hc])]))
     have hc' : decide (y3 < x3) = true := decide_eq_true hc
     clear hp
     go_wp2_with fail
     rw [← HB.out]
     go_roundg (bs.length - (j + 1))
     case measure => have := hgj.out; omega
     case rel => exact ⟨j + 1, by go_num, by omega, rfl, by rw [Hs2.out]; go_num, hbu⟩
    ·
     have Hs2 := Lib.hid (Hsj.out.trans (by rw [if_neg (by simp [hc])]))
     have hc' : decide (y3 < x3) = false := decide_eq_false hc
     clear hp
     go_wp2_with fail
     rw [← HB.out]
     go_roundg (bs.length - (j + 1))
     case measure => have := hgj.out; omega
     case rel => exact ⟨j + 1, by go_num, by omega, rfl, by rw [Hs2.out]; go_num, hbu⟩
   ·
    have e1 := tl_ne (fun h => hp h.symm)
    have Hs2 := Lib.hid (Hsj.out.trans (by rw [if_neg (by simp [hp])]))
    clear hp
    go_wp2_with fail
    rw [← HB.out]
    go_roundg (bs.length - (j + 1))
    case measure => have := hgj.out; omega
    case rel => exact ⟨j + 1, by go_num, by omega, rfl, by rw [Hs2.out]; go_num, hbu⟩
  ·
   obtain rfl : j = bs.length := by omega
   rw [List.take_length, HWx.out]
   generalize (if winB l pa pb x2 = true then 1 else 0) = iv at *
   have hbf := hbt.trans (hbx.mono hbt.size)
   clear hjl hgj
   go_wp2_with fail
   rw [← HA.out]
   go_roundg (ms.length - (k + 1))
   case measure => have := hgk.out; omega
   case rel => exact ⟨k + 1, by go_num, by omega, rfl, by rw [Hsn.out], hbf⟩
 ·
  obtain rfl : k = ms.length := by omega
  rw [List.take_length, ← HW.out]
  clear hlt
  go_wp2_with fail
  go_ret
  exact ⟨rfl, hb⟩

/-- The error of Wins. -/
def winE (l : List Mark) (a b : ByteArray) : Int := if marksFault l ≠ 0 then marksFault l else if ofP l a = [] ∨ ofP l b = [] then 8 else if a = b then 6 else 0

set_option maxRecDepth 100000 in
set_option maxHeartbeats 2000000 in
theorem winsOf_any (l : List Mark) (a : Option Addr) (cap : Nat) (pa pb : ByteArray) (w : World) (hs : SA w a l) (hl : l.length ≤ 400) :
  Calls Tryz.prog 33 #[.slice a l.length cap, .string pa, .string pb] w (Gives (.int .i64 (winsN l pa pb)) w) := by
 have HW := Lib.hid (show winsN l pa pb = ((keysOf (fun x => x.2.1) l).countP (winB l pa pb) : Nat) from rfl)
 generalize winsN l pa pb = wn at *
 have HS := Lib.hid (fun p h W (hW : SA W a l) => scoreOf_any l a cap p h W hW (by omega))
 go_enter Tryz.func33, Tryz.ntmps33
 go_wp2_with fail
 refine (Markers_any l a cap _ hs (by omega)).mono ?_
 rintro e wk ⟨vk, rfl, hownk, hbk⟩
 obtain ⟨aK, capK, rfl, hsaK, _, _⟩ := hownk.sa
 have hkl := keysOf_length (fun x => x.2.1) l
 clear hownk
 generalize keysOf (fun x => x.2.1) l = ks at *
 go_wp2_with fail
 go_loopg [7, 17] ks.length (fun gk nv i wr => ∃ k : Nat, i = .int .i64 k ∧ k ≤ ks.length ∧ Hid (gk = ks.length - k) ∧ nv = .int .i64 ((ks.take k).countP (winB l pa pb) : Nat) ∧ Below wk.heap.size wk wr)
 case atStart => exact ⟨0, rfl, by omega, rfl, rfl, Below.refl _ _⟩
 obtain ⟨k, rfl, hk, hgk, rfl, hb⟩ := hrel
 have hbw := below_next hbk hb
 by_cases hlt : k < ks.length
 ·
  obtain ⟨kb, koff, haK, ck⟩ := (hsaK.below hb).str hlt
  have htake := List.take_succ_eq_append_getElem hlt
  have Hsn := Lib.hid (countP_snoc (winB l pa pb) (ks.take k) ks[k])
  rw [← htake] at Hsn
  have hcl := List.countP_le_length (l := ks.take k) (p := winB l pa pb)
  rw [List.length_take] at hcl
  have HaK := Lib.hid haK
  rw [haK]
  clear haK htake
  generalize ks[k] = kk at *
  generalize (ks.take k).countP (winB l pa pb) = n0 at *
  have HSa := Lib.hid (HS.out pa kk)
  have HSb := Lib.hid (HS.out pb kk)
  unfold scVal at HSa HSb
  cases h1 : scOf l pa kk with
  | none =>
   rw [h1] at HSa
   simp only [Option.getD_none, Option.isSome_none] at HSa
   have hw : winB l pa pb kk = false := by unfold winB; rw [h1]
   have Hs2 := Lib.hid (Hsn.out.trans (by rw [hw]; simp : _ = n0))
   clear hw
   cases h2 : scOf l pb kk with
   | none =>
    rw [h2] at HSb
    simp only [Option.getD_none, Option.isSome_none] at HSb
    clear h1 h2
    go_wp2_with fail
    refine (HSa.out _ (hs.below hbw)).mono ?_
    rintro e wa ⟨rfl, hba⟩
    go_wp2_with fail
    refine (HSb.out _ (hs.below (below_next hbw hba))).mono ?_
    rintro e wb ⟨rfl, hbb⟩
    have hbab := below_next hba hbb
    go_wp2_with fail
    rw [← HaK.out]
    go_roundg (ks.length - (k + 1))
    case measure => have := hgk.out; omega
    case rel => exact ⟨k + 1, by go_num, by omega, rfl, by rw [Hs2.out], below_next hb hbab⟩
   | some o =>
    rw [h2] at HSb
    simp only [Option.getD_some, Option.isSome_some] at HSb
    clear h1 h2
    go_wp2_with fail
    refine (HSa.out _ (hs.below hbw)).mono ?_
    rintro e wa ⟨rfl, hba⟩
    go_wp2_with fail
    refine (HSb.out _ (hs.below (below_next hbw hba))).mono ?_
    rintro e wb ⟨rfl, hbb⟩
    have hbab := below_next hba hbb
    go_wp2_with fail
    rw [← HaK.out]
    go_roundg (ks.length - (k + 1))
    case measure => have := hgk.out; omega
    case rel => exact ⟨k + 1, by go_num, by omega, rfl, by rw [Hs2.out], below_next hb hbab⟩
  | some i =>
   rw [h1] at HSa
   simp only [Option.getD_some, Option.isSome_some] at HSa
   cases h2 : scOf l pb kk with
   | none =>
    rw [h2] at HSb
    simp only [Option.getD_none, Option.isSome_none] at HSb
    have hw : winB l pa pb kk = false := by unfold winB; rw [h1, h2]
    have Hs2 := Lib.hid (Hsn.out.trans (by rw [hw]; simp : _ = n0))
    clear hw
    clear h1 h2
    go_wp2_with fail
    refine (HSa.out _ (hs.below hbw)).mono ?_
    rintro e wa ⟨rfl, hba⟩
    go_wp2_with fail
    refine (HSb.out _ (hs.below (below_next hbw hba))).mono ?_
    rintro e wb ⟨rfl, hbb⟩
    have hbab := below_next hba hbb
    go_wp2_with fail
    rw [← HaK.out]
    go_roundg (ks.length - (k + 1))
    case measure => have := hgk.out; omega
    case rel => exact ⟨k + 1, by go_num, by omega, rfl, by rw [Hs2.out], below_next hb hbab⟩
   | some o =>
    rw [h2] at HSb
    simp only [Option.getD_some, Option.isSome_some] at HSb
    have hw : winB l pa pb kk = decide (o < i) := by unfold winB; rw [h1, h2]
    rw [hw] at Hsn
    clear h1 h2 hw
    by_cases hc : o < i
    ·
     have hc' : decide (o < i) = true := decide_eq_true hc
     have Hs2 := Lib.hid (Hsn.out.trans (by rw [if_pos hc'] : _ = n0 + 1))
     go_wp2_with fail
     refine (HSa.out _ (hs.below hbw)).mono ?_
     rintro e wa ⟨rfl, hba⟩
     go_wp2_with fail
     refine (HSb.out _ (hs.below (below_next hbw hba))).mono ?_
     rintro e wb ⟨rfl, hbb⟩
     have hbab := below_next hba hbb
     go_wp2_with fail
     rw [← HaK.out]
     go_roundg (ks.length - (k + 1))
     case measure => have := hgk.out; omega
     case rel => exact ⟨k + 1, by go_num, by omega, rfl, by rw [Hs2.out]; go_num, below_next hb hbab⟩
    ·
     have hc' : decide (o < i) = false := decide_eq_false hc
     have Hs2 := Lib.hid (Hsn.out.trans (by rw [hc']; simp : _ = n0))
     go_wp2_with fail
     refine (HSa.out _ (hs.below hbw)).mono ?_
     rintro e wa ⟨rfl, hba⟩
     go_wp2_with fail
     refine (HSb.out _ (hs.below (below_next hbw hba))).mono ?_
     rintro e wb ⟨rfl, hbb⟩
     have hbab := below_next hba hbb
     go_wp2_with fail
     rw [← HaK.out]
     go_roundg (ks.length - (k + 1))
     case measure => have := hgk.out; omega
     case rel => exact ⟨k + 1, by go_num, by omega, rfl, by rw [Hs2.out], below_next hb hbab⟩
 ·
  obtain rfl : k = ks.length := by omega
  rw [List.take_length, ← HW.out]
  clear hlt
  go_wp2_with fail
  go_ret
  exact ⟨rfl, hbw⟩
end Go.Proofs.YtcjcdbhobehlpaaGreatDoor
