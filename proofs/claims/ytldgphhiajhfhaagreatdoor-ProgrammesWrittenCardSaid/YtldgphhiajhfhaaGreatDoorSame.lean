/- SameProgramme: two lists of sessions that say the same. -/
import Derived.Test.YtldgphhiajhfhaaGreatDoorGridR1
import Derived.Test.YtldgphhiajhfhaaGreatDoorGridW
import Derived.Test.YtldgphhiajhfhaaGreatDoorKeep
import Derived.Test.YtldgphhiajhfhaaGreatDoorStrs
namespace Go.Proofs.YtldgphhiajhfhaaGreatDoor
open Go.RowKit
set_option linter.unusedVariables false
set_option linter.unusedSimpArgs false

def keyOf3 (s : Ses) : ByteArray × ByteArray × List ByteArray := (s.slot, s.room, s.papers)
/-! A list of papers beside a list of sessions, each in blocks of its own. -/
theorem NL.mono {α : Type} [Cel α] [Nst α] {base base' : Nat} {E : TypeId} {w : World} {v : Value} {l : List α} (h : NL base E w v l) (hb : base' ≤ base) : NL base' E w v l :=
 ⟨h.1.mono hb, fun x hx => ⟨(h.2 x hx).1, fun y hy => by obtain ⟨h1, h2, h3⟩ := (h.2 x hx).2 y hy; exact ⟨by omega, h2, h3⟩⟩⟩
structure PS (base : Nat) (w : World) (v1 v2 : Value) (l1 : List ByteArray) (ls : List Ses) : Prop where
 a : Own base 9 w v1 l1
 b : NL base 67 w v2 ls
 far : ∀ j, v1.ownBlock = some j → v2.ownBlock ≠ some j ∧ ∀ x ∈ ls, ∀ y ∈ Nst.ads x, y.block ≠ j
theorem PS.nil (base : Nat) (w : World) : PS base w (.slice none 0 0) (.slice none 0 0) [] [] := ⟨Own.nil _ _ _, NL.nil _ _ _, fun j h => by cases h⟩
theorem PS.below {base : Nat} {w w' : World} {v1 v2 : Value} {l1 : List ByteArray} {ls : List Ses} (h : PS base w v1 v2 l1 ls) (k : Below w.heap.size w w') : PS base w' v1 v2 l1 ls := ⟨h.a.below k, h.b.below k, h.far⟩
theorem PS.mono {base base' : Nat} {w : World} {v1 v2 : Value} {l1 : List ByteArray} {ls : List Ses} (h : PS base w v1 v2 l1 ls) (k : base' ≤ base) : PS base' w v1 v2 l1 ls := ⟨h.a.mono k, h.b.mono k, h.far⟩
theorem PS.papers {base g n cap : Nat} {w w' : World} {v1 v2 : Value} {l1 l1' : List ByteArray} {ls : List Ses} (h : PS base w v1 v2 l1 ls) (hown : Own base 9 w' (.slice (some ⟨g, 0, none⟩) n cap) l1') (hg : w.grownBy w' v1.ownBlock) (hat : v1.ownBlock = some g ∨ g = w.heap.size) : PS base w' (.slice (some ⟨g, 0, none⟩) n cap) v2 l1' ls := by
 refine ⟨hown, h.b.grownOther hg (fun j hj => h.far j hj), fun j hj => ?_⟩
 obtain rfl : g = j := Option.some.inj hj
 rcases hat with h1 | h1
 ·
  exact h.far g h1
 ·
  refine ⟨fun h2 => ?_, fun x hx y hy e => ?_⟩
  ·
   have := (h.b.1.lt g h2).2; omega
  ·
   have := ((h.b.2 x hx).2 y hy).2.1; omega
theorem PS.session {base g n cap : Nat} {w w' : World} {v1 v2 : Value} {l1 : List ByteArray} {ls : List Ses} {x : Ses} (h : PS base w v1 v2 l1 ls) (hx : SA w x.a1 x.papers) (hxa : ∀ y, x.a1 = some y → base ≤ y.block ∧ y.block < w.heap.size ∧ v2.ownBlock ≠ some y.block ∧ v1.ownBlock ≠ some y.block)
  (hown : Own base 67 w' (.slice (some ⟨g, 0, none⟩) n cap) (ls ++ [x])) (hg : w.grownBy w' v2.ownBlock) (hat : v2.ownBlock = some g ∨ g = w.heap.size) : PS base w' v1 (.slice (some ⟨g, 0, none⟩) n cap) l1 (ls ++ [x]) := by
 have hxm : ∀ y ∈ Nst.ads x, x.a1 = some y := fun y hy => by
  have : y ∈ x.a1.toList := hy
  simpa using this
 have hin : NIn base v2 w x := ⟨hx, fun y hy => by obtain ⟨h1, h2, h3, _⟩ := hxa y (hxm y hy); exact ⟨h1, h2, h3⟩⟩
 refine ⟨h.a.same (fun j hj => hg.block j (h.a.lt j hj).2 (fun e => (h.far j hj).1 e.symm)), h.b.snoc hin hg hown hat, fun j hj => ⟨fun h2 => ?_, fun z hz y hy e => ?_⟩⟩
 ·
  obtain rfl : g = j := Option.some.inj h2
  rcases hat with h1 | h1
  ·
   exact (h.far g hj).1 h1
  ·
   have := (h.a.lt g hj).2; omega
 ·
  rcases List.mem_append.1 hz with hz | hz
  ·
   exact (h.far j hj).2 z hz y hy e
  ·
   rw [List.mem_singleton.1 hz] at hy
   exact (hxa y (hxm y hy)).2.2.2 (by rw [e]; exact hj)
theorem PS.cloned {base g n cap n4 : Nat} {wr w6 w9 : World} {o : Obj} {v1 v2 : Value} {l1 s3 : List ByteArray} {ls : List Ses} {s1 s2 : ByteArray} {aC : Option Addr} {cC : Nat} (h : PS base wr v1 v2 l1 ls) (hb6 : Below wr.heap.size wr w6) (hoC : Own n4 9 w6 (.slice aC s3.length cC) s3) (hn4 : wr.heap.size ≤ n4) (hbase : base ≤ wr.heap.size)
  (hown : Own base 67 w9 (.slice (some ⟨g, 0, none⟩) n cap) (ls ++ [⟨s1, s2, s3, aC, cC⟩])) (hg : (w6.alloc o).grownBy w9 v2.ownBlock) (hat : v2.ownBlock = some g ∨ g = (w6.alloc o).heap.size) : PS base w9 v1 (.slice (some ⟨g, 0, none⟩) n cap) l1 (ls ++ [⟨s1, s2, s3, aC, cC⟩]) := by
 obtain ⟨a', c', e, hsa, hlt, -⟩ := hoC.sa
 cases e
 refine PS.session ((h.below hb6).below ((Below.refl _ _).alloc (Nat.le_refl _) o)) (hsa.alloc o) (fun y hy => ?_) hown hg hat
 obtain ⟨h1, h2⟩ := hlt y hy
 refine ⟨by omega, by simp; omega, fun e => ?_, fun e => ?_⟩
 ·
  have := (h.b.1.lt _ e).2; omega
 ·
  have := (h.a.lt _ e).2; omega
theorem key_take {p : List Ses} {l : List Nat} {j : Nat} (hj : j < l.length) (hi : l[j] < p.length) : (l.take (j + 1)).map (fun i => p[i]?.map keyOf3) = (l.take j).map (fun i => p[i]?.map keyOf3) ++ [some (p[l[j]].slot, p[l[j]].room, p[l[j]].papers)] := by
 rw [List.take_succ_eq_append_getElem hj, List.map_append]
 congr 1
 rw [List.map_cons, List.map_nil, List.getElem?_eq_getElem hi]
 rfl
theorem infoSesA : (Tryz.prog.info? 67).map (fun i => (i.zero, i.size, i.bytes)) = some (some (.agg #[.string ⟨#[]⟩, .string ⟨#[]⟩, .slice none 0 0]), 3, 56) := by kernel_rfl
set_option maxRecDepth 100000 in
set_option maxHeartbeats 1000000 in
theorem sameClo_any (x y : Ses) (w : World) (hx : SA w x.a1 x.papers) (hy : SA w y.a1 y.papers) (hl : x.papers.length ≤ 1000000) (he : keyOf3 x = keyOf3 y) :
  Calls Tryz.prog 47 #[x.agg, y.agg] w (Gives (.bool true) w) := by
 obtain ⟨x1, x2, x3, x4, x5⟩ := x
 obtain ⟨y1, y2, y3, y4, y5⟩ := y
 unfold keyOf3 at he
 simp only [Prod.mk.injEq] at he
 obtain ⟨rfl, rfl, rfl⟩ := he
 simp only at hx hy hl
 have HE := Lib.hid (fun W (h : Below w.heap.size w W) => equal_any x3 x3 x4 y4 x5 y5 W (hx.below h) (hy.below h) (by omega) (by omega))
 rw [show decide (x3 = x3) = true from decide_eq_true rfl] at HE
 unfold Ses.agg
 simp only
 have hX := (Box.new w 67 #[.string x1, .string x2, .slice x4 x3.length x5]).alloc (.cells #[.string x1, .string x2, .slice y4 x3.length y5] 67)
 have hY := Box.newAt (w.alloc (.cells #[.string x1, .string x2, .slice x4 x3.length x5] 67)) (w.heap.size + 1) 67 #[.string x1, .string x2, .slice y4 x3.length y5] (by simp)
 have hb0 : Below w.heap.size w ((w.alloc (.cells #[.string x1, .string x2, .slice x4 x3.length x5] 67)).alloc (.cells #[.string x1, .string x2, .slice y4 x3.length y5] 67)) := by (repeat' (first | exact Below.refl _ _ | assumption | refine Below.setCell ?_ ?_ _ | refine below_drewN ?_ _ | refine Below.drew ?_ | refine Below.alloc ?_ ?_ _ | (with_reducible refine Below.trans ?_ (Below.mono hb ?_)) | (with_reducible refine Below.trans ?_ (Below.mono hb0 ?_)) | (with_reducible refine Below.trans ?_ (Below.mono hb1 ?_)) | (with_reducible refine Below.trans ?_ (Below.mono hb2 ?_)) | (with_reducible refine Below.trans ?_ (Below.mono hb3 ?_)) | (with_reducible refine Below.trans ?_ (Below.mono hb4 ?_)) | (with_reducible refine Below.trans ?_ (Below.mono hb5 ?_)) | (with_reducible refine Below.trans ?_ (Below.mono hb6 ?_)) | (with_reducible refine Below.trans ?_ (Below.mono hb7 ?_)) | (with_reducible refine Below.trans ?_ (Below.mono hb8 ?_)) | (with_reducible refine Below.trans ?_ (Below.mono hb9 ?_)) | (with_reducible refine Below.trans ?_ (Below.mono hb10 ?_)) | (with_reducible refine Below.trans ?_ (Below.mono hb11 ?_)) | (with_reducible refine Below.trans ?_ (Below.mono hb12 ?_)) | (with_reducible refine Below.trans ?_ (Below.mono hb13 ?_)) | (with_reducible refine Below.trans ?_ (Below.mono hb14 ?_)) | (with_reducible refine Below.trans ?_ (Below.mono hb15 ?_)) | omega | (simp; done) | (simp; omega)))
 clear hx hy
 go_enter Tryz.func47, Tryz.ntmps47
 go_upto_region 1 with (fail)
 generalize (w.alloc (.cells #[.string x1, .string x2, .slice x4 x3.length x5] 67)).alloc (.cells #[.string x1, .string x2, .slice y4 x3.length y5] 67) = W at *
 generalize w.heap.size + 1 = b2 at *
 have h1 : (x1.toList == x1.toList) = true := by simp
 have h2 : (x2.toList == x2.toList) = true := by simp
 have hX_l := hX.lt; have hX_0 := hX.cell 0; have hX_1 := hX.cell 1; have hX_2 := hX.cell 2; simp at hX_0 hX_1 hX_2
 have hY_l := hY.lt; have hY_0 := hY.cell 0; have hY_1 := hY.cell 1; have hY_2 := hY.cell 2; simp at hY_0 hY_1 hY_2
 go_wp2_with fail
 refine (HE.out _ hb0).mono ?_
 rintro e w1 ⟨rfl, n, rfl⟩
 go_wp2_with fail
 go_ret
 exact ⟨rfl, below_drewN hb0 n⟩
set_option maxRecDepth 100000 in
set_option maxHeartbeats 4000000 in
theorem sameF_any (s t : List Ses) (a a2 : Option Addr) (cap cap2 : Nat) (w : World) (h : SA w a s) (h2 : SA w a2 t) (hs : ∀ x ∈ s, SA w x.a1 x.papers ∧ x.papers.length ≤ 1000000) (ht : ∀ x ∈ t, SA w x.a1 x.papers) (hm : s.map keyOf3 = t.map keyOf3) (hlen : s.length ≤ 1000000) :
  Calls Tryz.prog 46 #[.slice a s.length cap, .slice a2 t.length cap2, .func (.func 47) #[] #[]] w (Gives (.bool true) w) := by
 have hst : t.length = s.length := by have := congrArg List.length hm; simpa using this.symm
 have HX := Lib.hid (fun k (h1 : k < s.length) (h2 : k < t.length) => show keyOf3 s[k] = keyOf3 t[k] by
  have := congrArg (fun z : List (ByteArray × ByteArray × List ByteArray) => z[k]?) hm
  simpa [List.getElem?_map, List.getElem?_eq_getElem h1, List.getElem?_eq_getElem h2] using this)
 have HS := Lib.hid hs
 have HT := Lib.hid ht
 have Hst := Lib.hid hst
 rw [hst]
 clear hst hm hs ht
 have eg := enters_of Tryz.func47 (by kernel_rfl) rfl
 have hq0 : ((s.length : Int) != (s.length : Int)) = false := by simp
 go_enter Tryz.func46, Tryz.ntmps46
 go_wp2_with fail
 go_loopg [17] s.length (fun gk i wr => ∃ k : Nat, i = .int .i64 k ∧ k ≤ s.length ∧ Hid (gk = s.length - k) ∧ Below w.heap.size w wr)
 case atStart => exact ⟨0, rfl, by omega, rfl, Below.refl _ _⟩
 case round =>
  obtain ⟨k, rfl, hk, hgk, hb⟩ := hrel
  by_cases hlt : k < s.length
  ·
   have hlt2 : k < t.length := by rw [Hst.out]; exact hlt
   obtain ⟨b, off, ha, c0, c1, c2⟩ := (h.below hb).sesC hlt
   obtain ⟨b', off', ha', d0, d1, d2⟩ := (h2.below hb).sesC hlt2
   have hr1 := HS.out s[k] (List.getElem_mem hlt)
   have hr2 := HT.out t[k] (List.getElem_mem hlt2)
   have hx := HX.out k hlt hlt2
   have Ha := Lib.hid ha
   have Ha' := Lib.hid ha'
   rw [ha, ha']
   clear ha ha'
   generalize s[k] = r1 at *
   generalize t[k] = r2 at *
   clear hlt2
   have HE := Lib.hid (fun W (h : Below w.heap.size w W) => sameClo_any r1 r2 W (hr1.1.below h) (hr2.below h) hr1.2 hx)
   clear hr1 hr2 hx
   obtain ⟨x1, x2, x3, x4, x5⟩ := r1
   obtain ⟨y1, y2, y3, y4, y5⟩ := r2
   unfold Ses.agg at HE
   simp only at HE c0 c1 c2 d0 d1 d2
   have hk1 : (0 : Int) ≤ (k : Int) := by omega
   have hk2 : (k : Int) < (s.length : Int) := by omega
   go_upto_region 6 with (fail)
   have hX := Box.new wr 67 #[.string x1, .string x2, .slice x4 x3.length x5]
   have hbX : Below wr.heap.size wr (wr.alloc (.cells #[.string x1, .string x2, .slice x4 x3.length x5] 67)) := (Below.refl _ _).alloc (Nat.le_refl _) _
   have d0' := cell_later hbX d0
   have d1' := cell_later hbX d1
   have d2' := cell_later hbX d2
   have hbX2 := below_next hb hbX
   clear c0 c1 c2 d0 d1 d2 hbX hb
   generalize wr.alloc (.cells #[.string x1, .string x2, .slice x4 x3.length x5] 67) = W1 at *
   generalize wr.heap.size = n1 at *
   go_upto_region 7 with (fail)
   have hY := Box.new W1 67 #[.string y1, .string y2, .slice y4 y3.length y5]
   have hbY : Below W1.heap.size W1 (W1.alloc (.cells #[.string y1, .string y2, .slice y4 y3.length y5] 67)) := (Below.refl _ _).alloc (Nat.le_refl _) _
   have hX2 := hX.below hbY
   have hb3 := below_next hbX2 hbY
   clear d0' d1' d2' hX hbY hbX2
   generalize W1.alloc (.cells #[.string y1, .string y2, .slice y4 y3.length y5] 67) = W2 at *
   generalize W1.heap.size = n2 at *
   have hX2_l := hX2.lt; have hX2_0 := hX2.cell 0; have hX2_1 := hX2.cell 1; have hX2_2 := hX2.cell 2; simp at hX2_0 hX2_1 hX2_2
   have hY_l := hY.lt; have hY_0 := hY.cell 0; have hY_1 := hY.cell 1; have hY_2 := hY.cell 2; simp at hY_0 hY_1 hY_2
   go_wp2_with fail
   clear hX2_l hX2_0 hX2_1 hX2_2
   clear hY_l hY_0 hY_1 hY_2
   refine (HE.out W2 hb3).mono ?_
   rintro e w1 ⟨rfl, hb1⟩
   have hb2 := below_next hb3 hb1
   clear hb3 hb1 HE hX2 hY
   go_wp2_with fail
   rw [← Ha.out, ← Ha'.out]
   go_roundg (s.length - (k + 1))
   case measure => have := hgk.out; omega
   case rel => exact ⟨k + 1, by go_num, by omega, rfl, hb2⟩
  ·
   go_wp2_with fail
   go_ret
   exact ⟨rfl, hb⟩
set_option maxRecDepth 100000 in
theorem same_any (s t : List Ses) (a a2 : Option Addr) (cap cap2 : Nat) (w : World) (h : SA w a s) (h2 : SA w a2 t) (hs : ∀ x ∈ s, SA w x.a1 x.papers ∧ x.papers.length ≤ 1000000) (ht : ∀ x ∈ t, SA w x.a1 x.papers) (hm : s.map keyOf3 = t.map keyOf3) (hlen : s.length ≤ 1000000) :
  Calls Tryz.prog 15 #[.slice a s.length cap, .slice a2 t.length cap2] w (Gives (.bool true) w) := by
 have HE := Lib.hid (sameF_any s t a a2 cap cap2 w h h2 hs ht hm hlen)
 clear h h2 hs ht hm
 go_enter Tryz.func15, Tryz.ntmps15
 go_wp2_with fail
 refine HE.out.mono ?_
 rintro e w1 ⟨rfl, hb⟩
 go_wp2_with fail
 go_ret
 exact ⟨rfl, hb⟩
end Go.Proofs.YtldgphhiajhfhaaGreatDoor
