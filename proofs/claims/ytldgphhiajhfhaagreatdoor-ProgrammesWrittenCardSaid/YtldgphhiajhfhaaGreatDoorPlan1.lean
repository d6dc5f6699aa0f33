/- The reference's plan, first part: a programme copied, a programme without a paper. -/
import Derived.Test.YtldgphhiajhfhaaGreatDoorPrgW
import Derived.Test.YtldgphhiajhfhaaGreatDoorGridR5
import Derived.Test.YtldgphhiajhfhaaGreatDoorRegP
/-! The reference's plan, first part: a programme copied, a programme without a paper. -/
/-! The reference's plan, first part: a programme copied, a programme without a paper. -/
namespace Go.Proofs.YtldgphhiajhfhaaGreatDoor
open Go.RowKit
set_option linter.unusedVariables false
set_option linter.unusedSimpArgs false

def Ses.cnt (x : Ses) : ByteArray × ByteArray × List ByteArray := (x.slot, x.room, x.papers)
/-- The first k sessions have papers in blocks of their own. -/
structure PWk (base : Nat) (w : World) (v : Value) (l : List Ses) (k : Nat) : Prop where
 own : Own base 67 w v l
 inn : ∀ x ∈ l.take k, Own base 9 w x.pv x.papers
 apt : ∀ x ∈ l.take k, Apt v x.pv
 dis : (l.take k).Pairwise (fun x y => Apt x.pv y.pv)
theorem PWk.all {base : Nat} {w : World} {v : Value} {l : List Ses} (h : PWk base w v l l.length) : PW base w v l := by
 obtain ⟨h1, h2, h3, h4⟩ := h
 rw [List.take_length] at h2 h3 h4
 exact ⟨h1, h2, h3, h4⟩
theorem PWk.step {base g n cap : Nat} {w w1 : World} {l p : List Ses} {k : Nat} (h : PWk base w (.slice (some ⟨g, 0, none⟩) n cap) l k) (hk : k < l.length) (hc : l.map Ses.cnt = p.map Ses.cnt) (hd : l.drop k = p.drop k) {a2 : Option Addr} {c2 : Nat} (h2 : Own w.heap.size 9 w1 (.slice a2 l[k].papers.length c2) l[k].papers) (hb : Below w.heap.size w w1) (hbase : base ≤ w.heap.size) :
  ∃ l2, l2.map Ses.cnt = p.map Ses.cnt ∧ l2.drop (k + 1) = p.drop (k + 1) ∧ PWk base (w1.setCell ⟨g, k * 3 + 2, none⟩ (.slice a2 l[k].papers.length c2)) (.slice (some ⟨g, 0, none⟩) n cap) l2 (k + 1) := by
 have hgl : g < w.heap.size := (h.own.lt g rfl).2
 have hk2 : Kp (fun j => j = g) w1 (w1.setCell ⟨g, k * 3 + 2, none⟩ (.slice a2 l[k].papers.length c2)) := (Kp.refl (fun j => j = g) w1).setCell (p := ⟨g, k * 3 + 2, none⟩) (.inl rfl) _
 have hput := (h.own.below hb).put k 2 ⟨l[k].slot, l[k].room, l[k].papers, a2, c2⟩ (.slice a2 l[k].papers.length c2) hk (by decide) rfl
 rw [show k * Cel.k Ses + 2 = k * 3 + 2 from rfl] at hput
 have hv2 : ∀ j, (Value.slice a2 l[k].papers.length c2).ownBlock = some j → w.heap.size ≤ j := fun j hj => (h2.lt j hj).1
 have htk : (l.set k ⟨l[k].slot, l[k].room, l[k].papers, a2, c2⟩).take (k + 1) = l.take k ++ [⟨l[k].slot, l[k].room, l[k].papers, a2, c2⟩] := take_set_succE l k _ hk
 refine ⟨l.set k ⟨l[k].slot, l[k].room, l[k].papers, a2, c2⟩, ?_, ?_, hput, ?_, ?_, ?_⟩
 ·
  rw [List.map_set, ← hc]
  apply List.ext_getElem?
  intro i
  rw [List.getElem?_set]
  split
  ·
   next e => subst e; rw [if_pos (by simpa using hk), List.getElem?_map, List.getElem?_eq_getElem hk]; rfl
  ·
   rfl
 ·
  rw [drop_set_ltE _ _ _ _ (by omega)]
  have := congrArg (fun z => z.drop 1) hd
  simpa [List.drop_drop, Nat.add_comm] using this
 ·
  intro x hx
  rw [htk] at hx
  rcases List.mem_append.1 hx with h3 | h3
  ·
   exact ((h.inn x h3).below hb).kp hk2 (fun j hj e => h.apt x h3 g rfl (e ▸ hj))
  ·
   rw [List.mem_singleton] at h3
   subst h3
   exact (h2.mono hbase).kp hk2 (fun j hj e => by have := hv2 j hj; omega)
 ·
  intro x hx
  rw [htk] at hx
  rcases List.mem_append.1 hx with h3 | h3
  ·
   exact h.apt x h3
  ·
   rw [List.mem_singleton] at h3
   subst h3
   intro j hj hj2
   obtain rfl : g = j := Option.some.inj hj
   have := hv2 _ hj2
   omega
 ·
  rw [htk, List.pairwise_append]
  refine ⟨h.dis, List.pairwise_singleton _ _, fun y hy z hz j hj hj2 => ?_⟩
  rw [List.mem_singleton] at hz
  subst hz
  have h5 := ((h.inn y hy).lt j hj).2
  have := hv2 _ hj2
  omega
set_option maxRecDepth 100000 in
set_option maxHeartbeats 4000000 in
theorem copied_any (p : List Ses) (pa : Option Addr) (pc : Nat) (w : World) (hp : PRg w pa p) (hf : pa = none ∨ ∃ b off, pa = some ⟨b, off, none⟩) (hl : p.length ≤ 1000000) (hi : ∀ s ∈ p, s.papers.length ≤ 1000000) :
  Calls Tryz.prog 122 #[.slice pa p.length pc] w (fun e w' => ∃ v l, e = .returned v ∧ PW w.heap.size w' v l ∧ l.map Ses.cnt = p.map Ses.cnt ∧ Below w.heap.size w w') := by
 have HC := Lib.hid (cloneSes_any p pa pc w hp.list hf hl)
 have HP := Lib.hid (fun W (h : Below w.heap.size w W) => hp.below h)
 have HI := Lib.hid hi
 clear hp hi hf
 go_enter Tryz.func122, Tryz.ntmps122
 go_wp2_with fail
 refine HC.out.mono ?_
 rintro e w1 ⟨v, rfl, hown, hb1⟩
 obtain ⟨a, cap, rfl, hsa, hfm, -⟩ := hown.form
 have Hfm : Hid (0 < p.length → ∃ g, a = some ⟨g, 0, none⟩) := fun h0 => by
  rcases hfm with rfl | ⟨g, rfl, -, -⟩
  ·
   rcases hsa with h | ⟨b, off, h, -⟩
   ·
    rw [h] at h0; simp at h0
   ·
    cases h
  ·
   exact ⟨g, rfl⟩
 clear HC hsa hfm
 go_wp2_with fail
 go_loopg [9] p.length (fun gk iv wr => ∃ (k : Nat) (l : List Ses), iv = .int .i64 k ∧ k ≤ p.length ∧ Hid (gk = p.length - k) ∧ Hid (l.map Ses.cnt = p.map Ses.cnt) ∧ Hid (l.drop k = p.drop k) ∧ PWk w.heap.size wr (.slice a p.length cap) l k ∧ Below w.heap.size w wr)
 case atStart => exact ⟨0, p, rfl, by omega, rfl, rfl, rfl, ⟨hown, (fun x hx => by simp at hx), (fun x hx => by simp at hx), (by simp)⟩, hb1⟩
 case round =>
  clear hown hb1
  obtain ⟨k, l, rfl, hk, hgk, hc, hd, hpw, hb⟩ := hrel
  have hll : l.length = p.length := by have := congrArg List.length hc.out; simpa using this
  by_cases hlt : k < p.length
  ·
   obtain ⟨g, rfl⟩ := Hfm.out (by omega)
   have hlk : k < l.length := by omega
   have hyk : l[k] = p[k] := by
    have h1 := congrArg (fun z => z[0]?) hd.out
    simp only [List.getElem?_drop, Nat.add_zero] at h1
    rw [List.getElem?_eq_getElem hlk, List.getElem?_eq_getElem hlt] at h1
    exact Option.some.inj h1
   have hsp : SA wr l[k].a1 l[k].papers := by rw [hyk]; exact (HP.out _ hb).papers _ (List.getElem_mem hlt)
   have hpl : l[k].papers.length ≤ 1000000 := by rw [hyk]; exact HI.out _ (List.getElem_mem hlt)
   have hsal : SA wr (some ⟨g, 0, none⟩) l := by obtain ⟨a', c', he, hh, _⟩ := hpw.own.sa; simp only [Value.slice.injEq] at he; rw [he.1]; exact hh
   obtain ⟨mb, moff, ha', -, -, c2⟩ := hsal.sesC hlk
   cases ha'
   rw [Nat.zero_add] at c2
   have HCl := Lib.hid (clone_any l[k].papers l[k].a1 l[k].c1 wr hsp (by omega))
   have HST := Lib.hid (fun (w1 : World) (a2 : Option Addr) (c2 : Nat) (h2 : Own wr.heap.size 9 w1 (.slice a2 l[k].papers.length c2) l[k].papers) (hbb : Below wr.heap.size wr w1) => PWk.step hpw hlk hc.out hd.out h2 hbb hb.size)
   obtain ⟨cr, hbx⟩ := hpw.own.box
   have hfr := hbx.frozen (k * 3 + 2)
   clear hyk hsp hsal hpw hpl
   generalize l[k] = y at *
   obtain ⟨y1, y2, y3, y4, y5⟩ := y
   simp only at c2 HCl HST
   have hk1 : (0 : Int) ≤ (k : Int) := by omega
   have hk2 : (k : Int) < (p.length : Int) := by omega
   go_wp2_with fail
   refine HCl.out.mono ?_
   rintro e w2 ⟨v2, rfl, h2, hb2⟩
   obtain ⟨a2, cp2, rfl, -, -, -⟩ := h2.form
   obtain ⟨l2, e1, e2, hpw2⟩ := HST.out w2 a2 cp2 h2 hb2
   have c22 := cell_later hb2 c2
   have hfr2 := (hbx.below hb2).frozen (k * 3 + 2)
   have hbF : Below w.heap.size w (w2.setCell ⟨g, k * 3 + 2, none⟩ (.slice a2 y3.length cp2)) := (below_next hb hb2).setCell (by have := (hpw2.own.lt g rfl).1; exact this) _
   have Hpw2 := Lib.hid hpw2
   have HbF := Lib.hid hbF
   have He1 := Lib.hid e1
   have He2 := Lib.hid e2
   clear HCl HST h2 hb2 hb hbx hpw2 hbF e1 e2 hc hd c2 hfr
   go_wp2_with fail
   go_roundg (p.length - (k + 1))
   case measure => have := hgk.out; omega
   case rel => exact ⟨k + 1, l2, by go_num, by omega, rfl, He1.out, He2.out, Hpw2.out, HbF.out⟩
  ·
   obtain rfl : k = p.length := by omega
   rw [← hll] at hpw
   have Hpw := Lib.hid hpw.all
   rw [hll] at Hpw
   clear hpw
   go_wp2_with fail
   go_ret
   exact ⟨_, l, rfl, Hpw.out, hc.out, hb⟩
end Go.Proofs.YtldgphhiajhfhaaGreatDoor

/-! The reference's plan: a programme without a paper. -/
namespace Go.Proofs.YtldgphhiajhfhaaGreatDoor
open Go.RowKit
set_option linter.unusedVariables false
set_option linter.unusedSimpArgs false

/-- Sizes of a session with at most n papers. -/
def SesN (n : Nat) (s : Ses) : Prop := s.slot.size ≤ 1000 ∧ s.room.size ≤ 1000 ∧ s.papers.length ≤ n ∧ ∀ x ∈ s.papers, x.size ≤ 1000
theorem SesN.mono {n m : Nat} {s : Ses} (h : SesN n s) (hm : n ≤ m) : SesN m s := ⟨h.1, h.2.1, Nat.le_trans h.2.2.1 hm, h.2.2.2⟩
theorem SesN.cnt {n : Nat} {l p : List Ses} (hc : l.map Ses.cnt = p.map Ses.cnt) (h : ∀ s ∈ p, SesN n s) : ∀ s ∈ l, SesN n s := fun s hs => by
 have h1 : s.cnt ∈ p.map Ses.cnt := by rw [← hc]; exact List.mem_map_of_mem hs
 obtain ⟨t, ht, he⟩ := List.mem_map.1 h1
 have h2 := h t ht
 unfold Ses.cnt at he
 simp only [Prod.mk.injEq] at he
 obtain ⟨e1, e2, e3⟩ := he
 unfold SesN at h2 ⊢
 rw [← e1, ← e2, ← e3]
 exact h2
theorem withoutClo1_any (x p : ByteArray) (B : Nat) (W : World) (hB : W.cell? ⟨B, 0, none⟩ = some (.string p)) :
  Calls Tryz.prog 152 #[.string x, .pointer (some ⟨B, 0, none⟩)] W (Gives (.bool (decide (x = p))) W) := by
 by_cases h : x = p
 ·
  have e1 := tl_eq h
  rw [decide_eq_true h]
  clear h
  go_enter Tryz.func152, Tryz.ntmps152
  go_wp2_with fail
  go_ret
  exact ⟨rfl, Below.refl _ _⟩
 ·
  have e1 := tl_ne h
  rw [decide_eq_false h]
  clear h
  go_enter Tryz.func152, Tryz.ntmps152
  go_wp2_with fail
  go_ret
  exact ⟨rfl, Below.refl _ _⟩
theorem withoutClo2_any (s : Ses) (W : World) : Calls Tryz.prog 154 #[.agg #[.string s.slot, .string s.room, .slice s.a1 s.papers.length s.c1]] W (Gives (.bool (decide (s.papers.length = 0))) W) := by
 obtain ⟨s1, s2, s3, s4, s5⟩ := s
 simp only
 have hb0 : Below W.heap.size W (W.alloc (.cells #[.string s1, .string s2, .slice s4 s3.length s5] 67)) := (Below.refl _ _).alloc (Nat.le_refl _) _
 by_cases h : s3.length = 0
 ·
  have e1 : ((s3.length : Int) == 0) = true := by rw [beq_iff_eq]; omega
  rw [decide_eq_true h]
  clear h
  go_enter Tryz.func154, Tryz.ntmps154
  go_wp2_with fail
  go_ret
  exact ⟨rfl, hb0⟩
 ·
  have e1 : ((s3.length : Int) == 0) = false := by rw [beq_eq_false_iff_ne]; omega
  rw [decide_eq_false h]
  clear h
  go_enter Tryz.func154, Tryz.ntmps154
  go_wp2_with fail
  go_ret
  exact ⟨rfl, hb0⟩
set_option maxRecDepth 100000 in
set_option maxHeartbeats 4000000 in
theorem without_any (p : List Ses) (pa : Option Addr) (pc : Nat) (x : ByteArray) (n : Nat) (w : World) (hp : PRg w pa p) (hf : pa = none ∨ ∃ b off, pa = some ⟨b, off, none⟩) (hl : p.length ≤ 10000) (hn : n ≤ 10000) (ho : ∀ s ∈ p, SesN n s) :
  Calls Tryz.prog 116 #[.slice pa p.length pc, .string x] w (fun e w' => ∃ v l, e = .returned v ∧ PW w.heap.size w' v l ∧ l.length ≤ p.length ∧ (∀ s ∈ l, SesN n s ∧ s.papers ≠ []) ∧ Below w.heap.size w w') := by
 have hb0 : Below w.heap.size w (w.alloc (.cells #[.string x] 9)) := (Below.refl _ _).alloc (Nat.le_refl _) _
 have HC := Lib.hid (copied_any p pa pc _ (hp.below hb0) hf (by omega) (fun s hs => by have := (ho s hs).2.2.1; omega))
 have hB0 := Box.new w 9 #[.string x]
 have hz0 : (w.alloc (.cells #[.string x] 9)).heap.size = w.heap.size + 1 := by simp
 have HO := Lib.hid ho
 clear hp hf ho
 go_enter Tryz.func116, Tryz.ntmps116
 go_wp2_with fail
 refine HC.out.mono ?_
 rintro e w1 ⟨v, l0, rfl, hpw, hc, hb1⟩
 rw [hz0] at hpw
 have hB1 := hB0.below hb1
 have hb1' := below_next hb0 hb1
 have hn0 := SesN.cnt hc HO.out
 have Hl0 : Hid (l0.length = p.length) := by show _ = _; have := congrArg List.length hc; simpa using this
 have hl0b : l0.length ≤ 10000 := by have := Hl0.out; omega
 clear HC hb0 hB0 hb1 hz0 hc
 obtain ⟨a, cap, rfl, hsa, hfm, -⟩ := hpw.own.form
 have Hfm : Hid (0 < l0.length → ∃ g, a = some ⟨g, 0, none⟩) := fun h0 => by
  rcases hfm with rfl | ⟨g, rfl, -, -⟩
  ·
   rcases hsa with h | ⟨b, off, h, -⟩
   ·
    rw [h] at h0; simp at h0
   ·
    cases h
  ·
   exact ⟨g, rfl⟩
 have Hn0 := Lib.hid hn0
 clear hsa hfm hn0
 go_wp2_with fail
 go_loopg [11] l0.length (fun gk iv wr => ∃ (k : Nat) (l : List Ses), iv = .int .i64 k ∧ k ≤ l0.length ∧ Hid (gk = l0.length - k) ∧ l.length = l0.length ∧ Hid (∀ s ∈ l, SesN n s) ∧ PW (w.heap.size + 1) wr (.slice a l0.length cap) l ∧ Box wr w.heap.size 9 #[.string x] ∧ Below w.heap.size w wr)
 case atStart => exact ⟨0, l0, rfl, by omega, rfl, rfl, Hn0.out, hpw, hB1, hb1'⟩
 case round =>
  clear hpw hB1 hb1'
  obtain ⟨k, l, rfl, hk, hgk, hll, hno, hpw, hB, hb⟩ := hrel
  by_cases hlt : k < l0.length
  ·
   have h0 : 0 < l0.length := Nat.lt_of_le_of_lt (Nat.zero_le _) hlt
   obtain ⟨g, hga⟩ := Hfm.out h0
   subst hga
   have hlk : k < l.length := by rw [hll]; exact hlt
   have hm : l[k] ∈ l := List.getElem_mem hlk
   have hsal : SA wr (some ⟨g, 0, none⟩) l := by obtain ⟨a', c', he, hh, _⟩ := hpw.own.sa; simp only [Value.slice.injEq] at he; rw [he.1]; exact hh
   obtain ⟨mb, moff, ha', -, -, c2⟩ := hsal.sesC hlk
   cases ha'
   rw [Nat.zero_add] at c2
   have hpl := (hno.out _ hm).2.2.1
   have hown := hpw.inn _ hm
   have hapt := hpw.apt _ hm
   have HD := Lib.hid (deleteStrQ_any (w.heap.size + 1) l[k].papers l[k].pv 152 #[.pointer (some ⟨w.heap.size, 0, none⟩)] (fun y => decide (y = x)) wr hown (by omega) (enters_of Tryz.func152 (by kernel_rfl) rfl)
    (fun W' y hy hW' => withoutClo1_any y x w.heap.size W' ((hB.kp hW' (fun e => by have := (hown.lt _ e).1; omega)).cell 0)))
   have HST := Lib.hid (fun (w1 : World) (a2 : Option Addr) (c2 : Nat) (v2 : Value) (hv2 : v2 = .slice a2 (l[k].papers.filter (fun y => !decide (y = x))).length c2) (hkp : Kp (fun j => l[k].pv.ownBlock = some j) wr w1) (h2 : Own (w.heap.size + 1) 9 w1 v2 (l[k].papers.filter (fun y => !decide (y = x)))) (hat : ∀ j, v2.ownBlock = some j → l[k].pv.ownBlock = some j) => PW.papers hpw hlk hv2 hkp h2 (fun j hj => .inl (hat j hj)))
   have Hno2 : Hid (∀ (a2 : Option Addr) (c2 : Nat), ∀ s ∈ l.set k ⟨l[k].slot, l[k].room, l[k].papers.filter (fun y => !decide (y = x)), a2, c2⟩, SesN n s) := fun a2 c2 s hs => by
    rcases List.mem_or_eq_of_mem_set hs with h | rfl
    ·
     exact hno.out s h
    ·
     obtain ⟨q1, q2, q3, q4⟩ := hno.out _ hm
     exact ⟨q1, q2, Nat.le_trans (List.length_filter_le _ _) q3, fun y hy => q4 y (List.mem_filter.1 hy).1⟩
   have Hll2 : Hid (∀ y : Ses, (l.set k y).length = l0.length) := fun y => by rw [List.length_set]; exact hll
   obtain ⟨cr, hbx⟩ := hpw.own.box
   have Hol := Lib.hid hown.lt
   have Hgb := Lib.hid (hpw.own.lt g rfl)
   clear hsal hpw hm hown hll hno
   generalize l[k].papers.filter (fun y => !decide (y = x)) = fl at *
   have HPV : Hid (l[k].pv = .slice l[k].a1 l[k].papers.length l[k].c1) := rfl
   have Hap := Lib.hid hapt
   clear hapt
   generalize hpv : l[k].pv = pv at *
   generalize l[k].papers.length = y3 at *
   generalize l[k].a1 = y4 at *
   generalize l[k].c1 = y5 at *
   rw [← HPV.out] at c2
   have hk1 : (0 : Int) ≤ (k : Int) := by omega
   have hk2 : (k : Int) < (l0.length : Int) := by omega
   clear hpv
   go_wp2_with fail
   refine HD.out.mono ?_
   rintro e w2 ⟨v2, rfl, h2, hat, hkp⟩
   obtain ⟨a2, cp2, rfl, -, -, -⟩ := h2.form
   have hgn : ¬ (pv.ownBlock = some g) := fun e => Hap.out g rfl e
   have c22 := cellKp hkp hgn c2
   have hfr2 := (hbx.kp hkp hgn).frozen (k * 3 + 2)
   have hpw2 := HST.out w2 a2 cp2 _ rfl hkp h2 hat
   have hk2' : Kp (fun j => j = g) w2 (w2.setCell ⟨g, k * 3 + 2, none⟩ (.slice a2 fl.length cp2)) := (Kp.refl (fun j => j = g) w2).setCell (p := ⟨g, k * 3 + 2, none⟩) (.inl rfl) _
   have hgb := Hgb.out
   have hB2 := (hB.kp hkp (fun e => by have := (Hol.out _ e).1; omega)).kp hk2' (fun e => by omega)
   have hbF : Below w.heap.size w (w2.setCell ⟨g, k * 3 + 2, none⟩ (.slice a2 fl.length cp2)) := by
    refine ⟨by rw [hk2'.os, hkp.os, hb.os], by rw [hk2'.tape, hkp.tape, hb.tape], by rw [hk2'.output, hkp.output, hb.output], Nat.le_trans hb.size (Nat.le_trans hkp.size hk2'.size), fun i hi => ?_⟩
    have := hb.size
    have := hkp.size
    rw [hk2'.block i (by omega) (by omega), hkp.block i (by omega) (fun e => by have := (Hol.out _ e).1; omega), hb.block i hi]
   have Hpw2 := Lib.hid hpw2
   have HbF := Lib.hid hbF
   have HB2 := Lib.hid hB2
   clear HD HST h2 hat hkp hpw2 hbF hB2 hk2' hbx c2 hB hb
   go_wp2_with fail
   go_roundg (l0.length - (k + 1))
   case measure => have := hgk.out; omega
   case rel => exact ⟨k + 1, _, by go_num, by omega, rfl, Hll2.out _, Hno2.out a2 cp2, Hpw2.out, HB2.out, HbF.out⟩
  ·
   obtain rfl : k = l0.length := by omega
   have HD := Lib.hid (deleteSes_any (w.heap.size + 1) l (.slice a l0.length cap) 154 #[] (fun s => decide (s.papers.length = 0)) wr hpw.own (by have := Hl0.out; omega) (enters_of Tryz.func154 (by kernel_rfl) rfl) (fun W' s hs hW' => withoutClo2_any s W'))
   have hol := hpw.own.lt
   go_wp2_with fail
   refine HD.out.mono ?_
   rintro e w2 ⟨v2, rfl, h2, hat, hkp⟩
   have hpw2 := (hpw.turn hkp h2 hat (fun s hs => (List.mem_filter.1 hs).1) (hpw.dis.filter _)).mono (base2 := w.heap.size) (by omega)
   have hbF : Below w.heap.size w w2 := by
    refine ⟨by rw [hkp.os, hb.os], by rw [hkp.tape, hb.tape], by rw [hkp.output, hb.output], Nat.le_trans hb.size hkp.size, fun i hi => ?_⟩
    have := hb.size
    rw [hkp.block i (by omega) (fun e => by have := (hol _ e).1; omega), hb.block i hi]
   go_wp2_with fail
   go_ret
   refine ⟨_, _, rfl, hpw2, ?_, fun s hs => ⟨hno.out s (List.mem_filter.1 hs).1, fun h0 => ?_⟩, hbF⟩
   ·
    have h7 := List.length_filter_le (fun s : Ses => !decide (s.papers.length = 0)) l
    have h8 := Hl0.out
    omega
   ·
    have := (List.mem_filter.1 hs).2
    rw [h0] at this
    simp at this
end Go.Proofs.YtldgphhiajhfhaaGreatDoor

/-! The reference's plan: NewPlan, take, Sessions. -/
namespace Go.Proofs.YtldgphhiajhfhaaGreatDoor
open Go.RowKit
set_option linter.unusedVariables false
set_option linter.unusedSimpArgs false

/-- A slice's header, as an element. -/
structure PHd where
 a : Option Addr
 n : Nat
 c : Nat
instance instCelPHd : Cel PHd := ⟨1, fun h => [.slice h.a h.n h.c], fun _ => rfl, by decide, by simp [Value.oneCell']⟩
theorem infoSesL : (Tryz.prog.info? 34).map (fun i => (i.zero, i.size, i.bytes)) = some (some (.slice none 0 0), 1, 24) := by kernel_rfl
/-- A plan at block P: its steps stV, of which the last one is p. -/
structure PlanAt (S n0 P : Nat) (g : Grd) (stV : Value) (L : List PHd) (pa : Option Addr) (pc : Nat) (p : List Ses) (w : World) : Prop where
 box : Box w P 176 #[.slice g.ra g.rooms.length g.rc, .slice g.sa g.slots.length g.sc, .slice g.ta g.talks.length g.tc, .slice g.wa g.wishes.length g.wc, .slice g.ba g.bans.length g.bc, stV, .int .i64 ((L.length : Int) - 1)]
 st : Own n0 34 w stV L
 last : L[L.length - 1]? = some ⟨pa, p.length, pc⟩
 prg : PRg w pa p
 hf : pa = none ∨ ∃ b off, pa = some ⟨b, off, none⟩
 hpc : p.length ≤ pc
 far : ∀ y : Addr, (pa = some y ∨ ∃ s ∈ p, s.a1 = some y) → n0 ≤ y.block ∧ y.block < w.heap.size ∧ y.block ≠ P ∧ stV.ownBlock ≠ some y.block
 grd : ∀ W : World, (∀ k, k < n0 → k ≠ S → W.heap[k]? = w.heap[k]?) → GRd W g
 hP : n0 ≤ P
 hS : S < n0
 stP : stV.ownBlock ≠ some P
section
variable {S n0 P : Nat} {g : Grd} {stV : Value} {L : List PHd} {pa : Option Addr} {pc : Nat} {p : List Ses} {w w' : World}
theorem PlanAt.pos (h : PlanAt S n0 P g stV L pa pc p w) : 0 < L.length := by
 cases hl : L with
 | nil => have := h.last; rw [hl] at this; cases this
 | cons x r => simp
theorem PlanAt.grid (h : PlanAt S n0 P g stV L pa pc p w) : GRd w g := h.grd w (fun _ _ _ => rfl)
theorem PRg.far (h : PRg w pa p) (hk : ∀ y : Addr, (pa = some y ∨ ∃ s ∈ p, s.a1 = some y) → w'.heap[y.block]? = w.heap[y.block]?) : PRg w' pa p :=
 ⟨h.list.blk (fun y hy => hk y (.inl hy)), fun s hs => (h.papers s hs).blk (fun y hy => hk y (.inr ⟨s, hs, hy⟩))⟩
theorem PlanAt.kp {X : Nat → Prop} (h : PlanAt S n0 P g stV L pa pc p w) (k : Kp X w w') (hX : ∀ j, n0 ≤ j → ¬ X j) (hX2 : ∀ j, j < n0 → X j → j = S) : PlanAt S n0 P g stV L pa pc p w' := by
 have hPl := h.box.lt
 refine ⟨h.box.kp k (hX _ h.hP), h.st.kp k (fun j hj => hX j (h.st.lt j hj).1), h.last, h.prg.far (fun y hy => k.block _ (h.far y hy).2.1 (hX _ (h.far y hy).1)), h.hf, h.hpc, fun y hy => ?_, fun W hW => h.grd W (fun j hj hjS => ?_), h.hP, h.hS, h.stP⟩
 ·
  obtain ⟨q1, q2, q3, q4⟩ := h.far y hy
  exact ⟨q1, Nat.lt_of_lt_of_le q2 k.size, q3, q4⟩
 ·
  rw [hW j hj hjS]
  exact k.block j (by have := h.hP; omega) (fun hx => hjS (hX2 j hj hx))
theorem PlanAt.stp (h : PlanAt S n0 P g stV L pa pc p w) (k : Stp S w w') : PlanAt S n0 P g stV L pa pc p w' :=
 h.kp (Kp.of_stp (X := fun j => j = S) k rfl) (fun j hj e => by have := h.hS; omega) (fun j _ e => e)
theorem PlanAt.below (h : PlanAt S n0 P g stV L pa pc p w) (k : Below w.heap.size w w') : PlanAt S n0 P g stV L pa pc p w' :=
 h.kp (X := fun _ => False) (Kp.of_below k) (fun _ _ e => e) (fun _ _ e => e.elim)
/-- The next programme is laid. -/
theorem PlanAt.next (h : PlanAt S n0 P g stV L pa pc p w) {a2 : Option Addr} {c2 : Nat} {p2 : List Ses} {base : Nat} (hp2 : PW base w (.slice a2 p2.length c2) p2) (hn : n0 ≤ base) (hPb : P < base) (hsb : ∀ j, stV.ownBlock = some j → j < base) {w2 w9 : World} {v9 : Value} (k0 : Kp (fun j => j = P ∨ stV.ownBlock = some j) w w2) (hbx : Box w2 P 176 #[.slice g.ra g.rooms.length g.rc, .slice g.sa g.slots.length g.sc, .slice g.ta g.talks.length g.tc, .slice g.wa g.wishes.length g.wc, .slice g.ba g.bans.length g.bc, stV, .int .i64 (L.length : Nat)])
  (hg : w2.grownBy w9 stV.ownBlock) (hown : Own n0 34 w9 v9 (L ++ [⟨a2, p2.length, c2⟩])) (hat : ∀ j, v9.ownBlock = some j → stV.ownBlock = some j ∨ w.heap.size ≤ j) :
  PlanAt S n0 P g v9 (L ++ [⟨a2, p2.length, c2⟩]) a2 c2 p2 (w9.setCell ⟨P, 5, none⟩ v9) ∧ Kp (fun j => j = P ∨ stV.ownBlock = some j) w (w9.setCell ⟨P, 5, none⟩ v9) := by
 have hPl := h.box.lt
 have k1 := k0.grown hg (fun j hj => .inl (.inr hj))
 have k2 := k1.setCell (p := ⟨P, 5, none⟩) (.inl (.inl rfl)) v9
 have hb1 : Box w9 P 176 #[.slice g.ra g.rooms.length g.rc, .slice g.sa g.slots.length g.sc, .slice g.ta g.talks.length g.tc, .slice g.wa g.wishes.length g.wc, .slice g.ba g.bans.length g.bc, stV, .int .i64 (L.length : Nat)] := by
  have h1 := hbx.kp ((Kp.refl (fun j => stV.ownBlock = some j) _).grown hg (fun j hj => .inl hj)) h.stP
  simpa using h1
 have hb2 := hb1.set 5 v9
 have h9P : v9.ownBlock ≠ some P := fun e => by
  rcases hat P e with h1 | h1
  ·
   exact h.stP h1
  ·
   omega
 have hfar2 : ∀ y : Addr, (a2 = some y ∨ ∃ s ∈ p2, s.a1 = some y) → base ≤ y.block ∧ y.block < w.heap.size := fun y hy => by
  rcases hy with hy | ⟨s, hs, hy⟩
  ·
   have hoff := hp2.own.form
   obtain ⟨a', c', he, -, hfm, -⟩ := hoff
   simp only [Value.slice.injEq] at he
   rcases hfm with h1 | ⟨b, h1, h2, h3⟩
   ·
    rw [he.1, h1] at hy; cases hy
   ·
    rw [he.1, h1] at hy; cases hy; exact ⟨h2, h3⟩
  ·
   obtain ⟨a', c', he, -, hfm, -⟩ := (hp2.inn s hs).form
   unfold Ses.pv at he
   simp only [Value.slice.injEq] at he
   rcases hfm with h1 | ⟨b, h1, h2, h3⟩
   ·
    rw [he.1, h1] at hy; cases hy
   ·
    rw [he.1, h1] at hy; cases hy; exact ⟨h2, h3⟩
 obtain ⟨a', c', he, hprg, hfm, hcc⟩ := hp2.prg
 simp only [Value.slice.injEq] at he
 obtain ⟨rfl, -, rfl⟩ := he
 refine ⟨⟨?_, ?_, ?_, ?_, hfm, hcc, fun y hy => ?_, fun W hW => h.grd W (fun j hj hjS => ?_), h.hP, h.hS, h9P⟩, k2⟩
 ·
  have e : ((L ++ [(⟨a2, p2.length, c2⟩ : PHd)]).length : Int) - 1 = (L.length : Nat) := by rw [List.length_append]; simp
  rw [e]
  simpa using hb2
 ·
  exact hown.kp ((Kp.refl (fun j => j = P) w9).setCell (p := ⟨P, 5, none⟩) (.inl rfl) v9) (fun j hj e => h9P (e ▸ hj))
 ·
  rw [List.length_append]; simp
 ·
  refine hprg.far (fun y hy => k2.block _ (hfar2 y hy).2 (fun hx => ?_))
  have h1 := (hfar2 y hy).1
  rcases hx with hx | hx
  ·
   omega
  ·
   have := hsb _ hx; omega
 ·
  obtain ⟨h1, h2⟩ := hfar2 y hy
  refine ⟨by omega, Nat.lt_of_lt_of_le h2 k2.size, by omega, fun e => ?_⟩
  rcases hat _ e with h3 | h3
  ·
   have := hsb _ h3; omega
  ·
   omega
 ·
  rw [hW j hj hjS]
  refine k2.block j (by have := h.hP; omega) (fun hx => ?_)
  rcases hx with hx | hx
  ·
   have := h.hP; omega
  ·
   have := (h.st.lt j hx).1; omega
end
/-- What a step of a plan leaves. -/
def PlanRes (S n0 P : Nat) (g : Grd) (stV : Value) (L : List PHd) (Q : List Ses → Prop) (w : World) (e : Ending) (w' : World) : Prop := ∃ (er : Int) (stV' : Value) (L' : List PHd) (pa' : Option Addr) (pc' : Nat) (p' : List Ses), e = .returned (.int .i64 er) ∧ PlanAt S n0 P g stV' L' pa' pc' p' w' ∧ Q p' ∧ L'.length ≤ L.length + 1 ∧ (∀ j, stV'.ownBlock = some j → stV.ownBlock = some j ∨ w.heap.size ≤ j) ∧ Kp (fun j => j = P ∨ stV.ownBlock = some j) w w'
set_option maxRecDepth 100000 in
set_option maxHeartbeats 4000000 in
theorem take_any {S n0 P : Nat} {g : Grd} {stV : Value} {L : List PHd} {pa : Option Addr} {pc : Nat} {p : List Ses} (w : World) (h : PlanAt S n0 P g stV L pa pc p w) (hz : GSm g) (hL : L.length ≤ 1000000) (base : Nat) (a2 : Option Addr) (c2 : Nat) (p2 : List Ses) (hp2 : PW base w (.slice a2 p2.length c2) p2) (hn : n0 ≤ base) (hPb : P < base) (hsb : ∀ j, stV.ownBlock = some j → j < base) (hl2 : p2.length ≤ 10000) (ho2 : ∀ s ∈ p2, SesN 1000 s) :
  Calls Tryz.prog 121 #[.pointer (some ⟨P, 0, none⟩), .slice a2 p2.length c2] w (PlanRes S n0 P g stV L (fun p' => p' = p ∨ (p' = p2 ∧ progFault g p2 = 0)) w) := by
 have hprg : PRg w a2 p2 ∧ p2.length ≤ c2 := by
  obtain ⟨a', c', he, h1, -, h3⟩ := hp2.prg
  simp only [Value.slice.injEq] at he
  obtain ⟨rfl, -, rfl⟩ := he
  exact ⟨h1, h3⟩
 have HPF := Lib.hid (progFaultR_any g p2 a2 c2 w h.grid hz hprg.1 (by omega) (fun s hs => ho2 s hs) hprg.2)
 have HX := Lib.hid (fun (w1 w2 w9 : World) (v9 : Value) (hb : Below w.heap.size w w1) => PlanAt.next (w2 := w2) (w9 := w9) (v9 := v9) (h.below hb) (hp2.below hb) hn hPb hsb)
 have HPA := Lib.hid (fun (w1 : World) (hb : Below w.heap.size w w1) => h.below hb)
 have hbox := h.box
 have hpos := h.pos
 have hst := h.st
 have hstP := h.stP
 have hnP := h.hP
 obtain ⟨sa, sc, rfl, -, -, hscap⟩ := hst.form
 clear hprg hp2 h ho2
 rw [Grd.agg_eq] at HPF
 obtain ⟨er, her⟩ : ∃ er, er = progFault g p2 := ⟨_, rfl⟩
 rw [← her] at HPF
 have Her := Lib.hid her
 clear her
 go_enter Tryz.func121, Tryz.ntmps121
 have hbox_l := hbox.lt; have hbox_0 := hbox.cell 0; have hbox_1 := hbox.cell 1; have hbox_2 := hbox.cell 2; have hbox_3 := hbox.cell 3; have hbox_4 := hbox.cell 4; have hbox_5 := hbox.cell 5; have hbox_6 := hbox.cell 6; simp at hbox_0 hbox_1 hbox_2 hbox_3 hbox_4 hbox_5 hbox_6
 go_wp2_with fail
 clear hbox_l hbox_0 hbox_1 hbox_2 hbox_3 hbox_4 hbox_5 hbox_6
 refine HPF.out.mono ?_
 rintro e w1 ⟨rfl, hb1⟩
 have hbox1 := hbox.below hb1
 have hst1 := hst.below hb1
 have hl1 := hbox.lt
 have hz1 := hb1.size
 clear hbox hst HPF
 by_cases he : er = 0
 ·
  subst he
  have hw : IntKind.i64.wrap ((L.length : Int) - 1 + 1) = (L.length : Int) := by rw [IntWalk.i64_in _ (by omega)]; omega
  have hbox1_l := hbox1.lt; have hbox1_0 := hbox1.cell 0; have hbox1_1 := hbox1.cell 1; have hbox1_2 := hbox1.cell 2; have hbox1_3 := hbox1.cell 3; have hbox1_4 := hbox1.cell 4; have hbox1_5 := hbox1.cell 5; have hbox1_6 := hbox1.cell 6; simp at hbox1_0 hbox1_1 hbox1_2 hbox1_3 hbox1_4 hbox1_5 hbox1_6
  have hbox1_f0 := hbox1.frozen 0; have hbox1_f1 := hbox1.frozen 1; have hbox1_f2 := hbox1.frozen 2; have hbox1_f3 := hbox1.frozen 3; have hbox1_f4 := hbox1.frozen 4; have hbox1_f5 := hbox1.frozen 5; have hbox1_f6 := hbox1.frozen 6
  go_upto_region 5 with (fail)
  have hbox2 := hbox1.set 6 (.int .i64 (L.length : Nat))
  simp at hbox2
  have hst2 : Own n0 34 (w1.setCell ⟨P, 6, none⟩ (.int .i64 (L.length : Nat))) (.slice sa L.length sc) L := hst1.kp ((Kp.refl (fun j => j = P) w1).setCell (p := ⟨P, 6, none⟩) (.inl rfl) _) (fun j hj e => hstP (e ▸ hj))
  have hc5 := hbox2.cell 5
  have hc6 := hbox2.cell 6
  simp at hc5 hc6
  have hzw : n0 ≤ (w1.setCell ⟨P, 6, none⟩ (.int .i64 (L.length : Nat))).heap.size := by simp; omega
  have hlc : (L.length : Int) ≤ (sc : Int) := by omega
  have hl0 : (0 : Int) ≤ (L.length : Int) := by omega
  clear hbox1_l hbox1_0 hbox1_1 hbox1_2 hbox1_3 hbox1_4 hbox1_5 hbox1_6
  generalize hW2 : w1.setCell ⟨P, 6, none⟩ (.int .i64 (L.length : Nat)) = W2 at *
  refine wp_regionF (S := (fun wx => wx.cell? ⟨P, 5, none⟩ = some (.slice sa L.length sc) ∧ wx.cell? ⟨P, 6, none⟩ = some (.int .i64 (L.length : Nat)))) 15 (by kernel_rfl) ?hS (fun hHeld => ?_)
  case hS => exact ⟨hc5, hc6⟩
  refine rtakeF (i := 0) (d := (some 22)) (v := ?_) (n := 40) rfl (by kernel_rfl) (by kernel_rfl) (by kernel_rfl) (by kernel_rfl) (by kernel_rfl) (by kernel_rfl) (fun _ _ _ h => h) (by kernel_rfl) (by assumption) ?_ ?_
  rotate_left 1
  ·
   (intro wI hSI; (try dsimp only at hSI); go_simp; (try with_reducible rfl))
  simp only [Act.put, lsetA, lsetZ, lsetS]
  refine rtakeF (i := 1) (d := (some 23)) (v := ?_) (n := 40) rfl (by kernel_rfl) (by kernel_rfl) (by kernel_rfl) (by kernel_rfl) (by kernel_rfl) (by kernel_rfl) (fun _ _ _ h => h) (by kernel_rfl) (by assumption) ?_ ?_
  rotate_left 1
  ·
   (intro wI hSI; (try dsimp only at hSI); go_simp; (try with_reducible rfl))
  simp only [Act.put, lsetA, lsetZ, lsetS]
  refine rtakeF (i := 2) (d := (some 24)) (v := ?_) (n := 40) rfl (by kernel_rfl) (by kernel_rfl) (by kernel_rfl) (by kernel_rfl) (by kernel_rfl) (by kernel_rfl) (fun _ _ _ h => h) (by kernel_rfl) (by assumption) ?_ ?_
  rotate_left 1
  ·
   (intro wI hSI; (try dsimp only at hSI); go_simp; (try with_reducible rfl))
  simp only [Act.put, lsetA, lsetZ, lsetS]
  refine rtakeF (i := 3) (d := (some 25)) (v := ?_) (n := 40) rfl (by kernel_rfl) (by kernel_rfl) (by kernel_rfl) (by kernel_rfl) (by kernel_rfl) (by kernel_rfl) (fun _ _ _ h => h) (by kernel_rfl) (by assumption) ?_ ?_
  rotate_left 1
  ·
   (intro wI hSI; (try dsimp only at hSI); go_simp; (try with_reducible rfl))
  simp only [Act.put, lsetA, lsetZ, lsetS]
  refine rtakeF (i := 4) (d := (some 26)) (v := ?_) (n := 40) rfl (by kernel_rfl) (by kernel_rfl) (by kernel_rfl) (by kernel_rfl) (by kernel_rfl) (by kernel_rfl) (fun _ _ _ h => h) (by kernel_rfl) (by assumption) ?_ ?_
  rotate_left 1
  ·
   (intro wI hSI; (try dsimp only at hSI); go_simp; (try with_reducible rfl))
  simp only [Act.put, lsetA, lsetZ, lsetS]
  refine rtakeF (i := 5) (d := (some 27)) (v := ?_) (n := 40) rfl (by kernel_rfl) (by kernel_rfl) (by kernel_rfl) (by kernel_rfl) (by kernel_rfl) (by kernel_rfl) (fun _ _ _ h => h) (by kernel_rfl) (by assumption) ?_ ?_
  rotate_left 1
  ·
   (intro wI hSI; (try dsimp only at hSI); go_simp; (try with_reducible rfl))
  simp only [Act.put, lsetA, lsetZ, lsetS]
  refine rtakeF (i := 6) (d := (some 28)) (v := ?_) (n := 40) rfl (by kernel_rfl) (by kernel_rfl) (by kernel_rfl) (by kernel_rfl) (by kernel_rfl) (by kernel_rfl) (fun _ _ _ h => h) (by kernel_rfl) (by assumption) ?_ ?_
  rotate_left 1
  ·
   (intro wI hSI; (try dsimp only at hSI); go_simp; (try with_reducible rfl))
  simp only [Act.put, lsetA, lsetZ, lsetS]
  refine rtakeF (i := 7) (d := (some 29)) (v := ?_) (n := 40) rfl (by kernel_rfl) (by kernel_rfl) (by kernel_rfl) (by kernel_rfl) (by kernel_rfl) (by kernel_rfl) (fun _ _ _ h => h) (by kernel_rfl) (by assumption) ?_ ?_
  rotate_left 1
  ·
   (intro wI hSI; (try dsimp only at hSI); go_simp; (try with_reducible rfl))
  simp only [Act.put, lsetA, lsetZ, lsetS]
  refine rtakeF (i := 8) (d := (some 30)) (v := ?_) (n := 40) rfl (by kernel_rfl) (by kernel_rfl) (by kernel_rfl) (by kernel_rfl) (by kernel_rfl) (by kernel_rfl) (fun _ _ _ h => h) (by kernel_rfl) (by assumption) ?_ ?_
  rotate_left 1
  ·
   (intro wI hSI; (try dsimp only at hSI); go_simp; (try with_reducible rfl))
  simp only [Act.put, lsetA, lsetZ, lsetS]
  refine rtakeF (i := 9) (d := (some 31)) (v := ?_) (n := 40) rfl (by kernel_rfl) (by kernel_rfl) (by kernel_rfl) (by kernel_rfl) (by kernel_rfl) (by kernel_rfl) (fun _ _ _ h => h) (by kernel_rfl) (by assumption) ?_ ?_
  rotate_left 1
  ·
   (intro wI hSI; (try dsimp only at hSI); go_simp; (try with_reducible rfl))
  simp only [Act.put, lsetA, lsetZ, lsetS]
  refine rtakeF (i := 10) (d := (some 32)) (v := ?_) (n := 40) rfl (by kernel_rfl) (by kernel_rfl) (by kernel_rfl) (by kernel_rfl) (by kernel_rfl) (by kernel_rfl) (fun _ _ _ h => h) (by kernel_rfl) (by assumption) ?_ ?_
  rotate_left 1
  ·
   (intro wI hSI; (try dsimp only at hSI); go_simp; (try with_reducible rfl))
  simp only [Act.put, lsetA, lsetZ, lsetS]
  have hbox3 := hbox2.drew.alloc (.cells #[.slice a2 p2.length c2] 34)
  have hst3 := hst2.drew.alloc (.cells #[.slice a2 p2.length c2] 34)
  refine rcallF (i := 11) (d := (some 33)) (by kernel_rfl) rfl (by kernel_rfl) (fun K hK => ?_)
  go_simp
  refine hK.out _ _ (.inr ?hS) (fun hHeld0 => ?_)
  case hS => exact ⟨hbox3.cell 5, hbox3.cell 6⟩
  clear hK K
  have hHeld := hHeld0.resolve_left (by decide)
  simp only [Act.put, lsetA, lsetZ, lsetS]
  refine rcallF (i := 12) (d := (some 34)) (by kernel_rfl) rfl (by kernel_rfl) (fun K hK => ?_)
  refine step_append_lie (α := PHd) (by rfl) _ _ 174 (by rfl) 34 24 (.slice none 0 0) Tryz.underlying174 infoSesL (by rfl) (.slice sa L.length sc) L (by rfl) hst3 ⟨a2, p2.length, c2⟩ _ (by rfl) (Box.new _ _ _) (by omega) (by omega) (by simp; omega) ?_; intro g9 cap9 w9 hown9 hg9 hat9; have hb9 := hbox3.kp ((Kp.refl (fun j => (Value.slice sa L.length sc).ownBlock = some j) _).grown hg9 (fun j hj => .inl hj)) hstP; have hc95 := hb9.cell 5; have hc96 := hb9.cell 6; have hf95 := hb9.frozen 5; simp at hc95 hc96
  refine hK.out _ _ (.inr ?hS) (fun hHeld0 => ?_)
  case hS => exact ⟨hc95, hc96⟩
  clear hK K
  have hHeld := hHeld0.resolve_left (by decide)
  simp only [Act.put, lsetA, lsetZ, lsetS]
  refine rtakeF (i := 13) (d := (some 35)) (v := ?_) (n := 40) rfl (by kernel_rfl) (by kernel_rfl) (by kernel_rfl) (by kernel_rfl) (by kernel_rfl) (by kernel_rfl) (fun _ _ _ h => h) (by kernel_rfl) (by assumption) ?_ ?_
  rotate_left 1
  ·
   (intro wI hSI; (try dsimp only at hSI); go_simp; (try with_reducible rfl))
  simp only [Act.put, lsetA, lsetZ, lsetS]
  refine rtakeF (i := 14) (d := (some 36)) (v := ?_) (n := 40) rfl (by kernel_rfl) (by kernel_rfl) (by kernel_rfl) (by kernel_rfl) (by kernel_rfl) (by kernel_rfl) (fun _ _ _ h => h) (by kernel_rfl) (by assumption) ?_ ?_
  rotate_left 1
  ·
   (intro wI hSI; (try dsimp only at hSI); go_simp; (try with_reducible rfl))
  simp only [Act.put, lsetA, lsetZ, lsetS]
  refine rcallF (i := 15) (d := none) (by kernel_rfl) rfl (by kernel_rfl) (fun K hK => ?_)
  go_simp
  refine hK.out undef _ (.inl rfl) (fun _ => ?_)
  clear hK K
  simp only [Act.put, lsetA, lsetZ, lsetS]
  refine wpAnyF_done (by kernel_rfl) ?_ _
  have hk3 : Kp (fun j => j = P ∨ (Value.slice sa L.length sc).ownBlock = some j) w1 (W2.drew.alloc (.cells #[.slice a2 p2.length c2] 34)) := by
   rw [← hW2]
   exact (((Kp.refl _ w1).setCell (p := ⟨P, 6, none⟩) (.inl (.inl rfl)) _).drew).alloc _
  have hat : ∀ j, (Value.slice (some ⟨g9, 0, none⟩) (L.length + 1) cap9).ownBlock = some j → (Value.slice sa L.length sc).ownBlock = some j ∨ w1.heap.size ≤ j := fun j hj => by
   obtain rfl : g9 = j := Option.some.inj hj
   rcases hat9 with h1 | h1
   ·
    exact .inl h1
   ·
    right
    rw [h1, ← hW2]; simp
  obtain ⟨hN, hK⟩ := HX.out w1 _ _ _ hb1 hk3 hbox3 hg9 hown9 hat
  have HN := Lib.hid hN
  have HK := Lib.hid (Kp.trans (Kp.of_below hb1 (X := fun j => j = P ∨ (Value.slice sa L.length sc).ownBlock = some j)) hK)
  have Hat := Lib.hid hat
  have Hz1 := Lib.hid hz1
  clear hN hK hat HX HPA hHeld hbox3 hst3 hg9 hown9 hat9 hb9 hc95 hc96 hf95 hbox2 hst2 hk3
  go_wp2_with fail
  go_ret
  exact ⟨0, _, _, a2, c2, p2, rfl, HN.out, .inr ⟨rfl, Her.out.symm⟩, by rw [List.length_append]; simp, fun j hj => (Hat.out j hj).imp id (fun e => Nat.le_trans Hz1.out e), HK.out⟩
 ·
  have hq : (er != 0) = true := by simpa using he
  have hPA1 := HPA.out _ hb1
  clear HX HPA he
  go_wp2_with fail
  go_ret
  exact ⟨er, _, L, pa, pc, p, rfl, hPA1, .inl rfl, by omega, fun j hj => .inl hj, Kp.of_below hb1⟩
end Go.Proofs.YtldgphhiajhfhaaGreatDoor

/-! The reference's plan: Place. Written by gen/src/plan4.py. -/
/-! The reference's plan: Place. Written by gen/src/plan4.py. -/
namespace Go.Proofs.YtldgphhiajhfhaaGreatDoor
open Go.RowKit
set_option linter.unusedVariables false
set_option linter.unusedSimpArgs false

theorem idxI_bd {α : Type} (c : α → Bool) (l : List α) : -1 ≤ idxI c l ∧ idxI c l < l.length := by
 unfold idxI
 cases h : l.findIdx? c with
 | none => exact ⟨by show (-1 : Int) ≤ -1; omega, by show (-1 : Int) < _; omega⟩
 | some k =>
  have := (List.findIdx?_eq_some_iff_getElem.1 h).1
  constructor
  ·
   show (-1 : Int) ≤ (k : Int); omega
  ·
   show (k : Int) < _; omega
theorem placeClo_any (s : Ses) (slot room : ByteArray) (b1 b2 : Nat) (w : World) (h1 : w.cell? ⟨b1, 0, none⟩ = some (.string slot)) (h2 : w.cell? ⟨b2, 0, none⟩ = some (.string room)) :
  Calls Tryz.prog 118 #[s.agg, .pointer (some ⟨b1, 0, none⟩), .pointer (some ⟨b2, 0, none⟩)] w (Gives (.bool (decide (s.slot = slot) && decide (s.room = room))) w) := by
 obtain ⟨s1, s2, s3, s4, s5⟩ := s
 unfold Ses.agg
 simp only
 have hl1 := cell_lt h1
 have hl2 := cell_lt h2
 have hb0 : Below w.heap.size w (w.alloc (.cells #[.string s1, .string s2, .slice s4 s3.length s5] 67)) := (Below.refl _ _).alloc (Nat.le_refl _) _
 by_cases q1 : s1 = slot
 ·
  have e1 := tl_eq q1
  rw [decide_eq_true q1]
  clear q1
  by_cases q2 : s2 = room
  ·
   have e2 := tl_eq q2
   rw [decide_eq_true q2]
   clear q2
   go_enter Tryz.func118, Tryz.ntmps118
   go_wp2_with fail
   go_ret
   exact ⟨rfl, hb0⟩
  ·
   have e2 := tl_ne q2
   rw [decide_eq_false q2]
   clear q2
   go_enter Tryz.func118, Tryz.ntmps118
   go_wp2_with fail
   go_ret
   exact ⟨rfl, hb0⟩
 ·
  have e1 := tl_ne q1
  rw [decide_eq_false q1]
  clear q1
  go_enter Tryz.func118, Tryz.ntmps118
  go_wp2_with fail
  go_ret
  exact ⟨rfl, hb0⟩
open Go.Sort in
theorem sortSes_perm (l : List Ses) : (sortSes l).Perm l := by
 have h := (pdq_sorts (ltOf cmpSes) swoSes l.toArray 0 l.length (Lib.bitLen l.length) true true (Nat.zero_le _) (by rw [List.size_toArray]; exact Nat.le_refl _) (Or.inl rfl)).1
 have h2 := h.2.2
 rw [Array.extract_eq_self_of_le (by rw [h.1, List.size_toArray]; exact Nat.le_refl _), Array.extract_eq_self_of_le (by rw [List.size_toArray]; exact Nat.le_refl _)] at h2
 exact h2
theorem below_kp {n : Nat} {a b c : World} {X : Nat → Prop} (h : Below n a b) (k : Kp X b c) (hX : ∀ j, X j → n ≤ j) (hn : n ≤ b.heap.size) : Below n a c :=
 ⟨k.os.trans h.os, k.tape.trans h.tape, k.output.trans h.output, Nat.le_trans h.size k.size, fun i hi => (k.block i (by omega) (fun hx => by have := hX i hx; omega)).trans (h.block i hi)⟩
section
variable {P : Program} {ops : Array Oper} {Q : Exit → Act → World → Prop} {md : Region.Mode} {S : World → Prop} {f : Nat}
/-- Two operations are ready: each may come first. -/
theorem rcall2F {i j : Nat} {oi oj : Oper} {di dj : Option Tmp} {fuel : Nat} {listed : Array Bool} {a : Act} {w : World} (hr : Region.ready md ops listed = [i, j]) (hi : ops[i]? = some oi) (hdi : oi.dst = di) (hj : ops[j]? = some oj) (hdj : oj.dst = dj)
  (h1 : ∀ K' : Act → World → Prop, Shut (∀ v w, (i = f ∨ S w) → ((i = f ∨ S w) → wpAnyF P md ops Q S f fuel (listed.setIfInBounds i true) (a.put di v) w) → K' (a.put di v) w) → if Region.wanted oi (yielded ops a.tmps) = true then Oper.wp P oi a w K' Q else K' (a.put di undef) w)
  (h2 : ∀ K' : Act → World → Prop, Shut (∀ v w, (j = f ∨ S w) → ((j = f ∨ S w) → wpAnyF P md ops Q S f fuel (listed.setIfInBounds j true) (a.put dj v) w) → K' (a.put dj v) w) → if Region.wanted oj (yielded ops a.tmps) = true then Oper.wp P oj a w K' Q else K' (a.put dj undef) w) :
  wpAnyF P md ops Q S f (fuel + 1) listed a w := by
 subst hdi hdj
 refine ⟨fun h0 => absurd (hr.symm.trans h0) (by simp), fun k hk => ?_⟩
 rw [hr] at hk
 simp only [List.mem_cons, List.not_mem_nil, or_false] at hk
 rcases hk with rfl | rfl
 ·
  exact wpOp_step hi (fun K' hK => h1 K' (fun v w hS hh => hK _ _ ⟨hS, hh hS⟩))
 ·
  exact wpOp_step hj (fun K' hK => h2 K' (fun v w hS hh => hK _ _ ⟨hS, hh hS⟩))
end
set_option maxRecDepth 100000 in
set_option maxHeartbeats 16000000 in
theorem place_any {S n0 P : Nat} {g : Grd} {stV : Value} {L : List PHd} {pa : Option Addr} {pc : Nat} {p : List Ses} (w : World) (paper room slot : ByteArray) (n : Nat) (h : PlanAt S n0 P g stV L pa pc p w) (hz : GSm g) (hL : L.length ≤ 100000) (hn : n ≤ 900) (hpl : p.length ≤ n) (ho : ∀ s ∈ p, SesN n s) (hs1 : paper.size ≤ 1000) (hs2 : room.size ≤ 1000) (hs3 : slot.size ≤ 1000) :
  Calls Tryz.prog 65 #[.pointer (some ⟨P, 0, none⟩), .string paper, .string room, .string slot, .int .i64 0] w (PlanRes S n0 P g stV L (fun p' => p'.length ≤ n + 1 ∧ (∀ s ∈ p', SesN (n + 1) s) ∧ (p' = p ∨ progFault g p' = 0)) w) := by
 have HPA := Lib.hid (fun (w1 : World) (hb : Below w.heap.size w w1) => h.below hb)
 have HTL := Lib.hid (fun key W (h : GRd W g) => talkOf_any g key W h (by have := hz.talks; omega))
 have HRM := Lib.hid (fun key W (h : GRd W g) => roomOf_any g key W h (by have := hz.rooms; omega))
 have HSL := Lib.hid (fun key W (h : GRd W g) => slotOf_any g key W h (by have := hz.slots; omega))
 have HZM := Lib.hid hz
 have HO := Lib.hid ho
 have HUN : Hid (∀ (er : Int) (w1 : World), Below w.heap.size w w1 → PlanRes S n0 P g stV L (fun p' => p'.length ≤ n + 1 ∧ (∀ s ∈ p', SesN (n + 1) s) ∧ (p' = p ∨ progFault g p' = 0)) w (.returned (.int .i64 er)) w1) := fun er w1 hb =>
  ⟨er, stV, L, pa, pc, p, rfl, h.below hb, ⟨by omega, fun s hs => (ho s hs).mono (by omega), .inl rfl⟩, by omega, fun j hj => .inl hj, Kp.of_below hb⟩
 have hPl := h.box.lt
 have hbox := ((h.box.alloc (.cells #[.string room] 9)).alloc (.cells #[.string slot] 9))
 obtain ⟨m, hm⟩ : ∃ m, L.length = m + 1 := ⟨L.length - 1, by have := h.pos; omega⟩
 rw [show (L.length : Int) - 1 = (m : Int) by omega] at hbox
 clear hz ho h
 rw [Grd.agg_eq] at HTL HRM HSL
 have hR0 := (Box.new w 9 #[.string room]).alloc (.cells #[.string slot] 9)
 have hT0 := Box.newAt (w.alloc (.cells #[.string room] 9)) (w.heap.size + 1) 9 #[.string slot] (by simp)
 have hb0 : Below w.heap.size w ((w.alloc (.cells #[.string room] 9)).alloc (.cells #[.string slot] 9)) := ((Below.refl _ _).alloc (Nat.le_refl _) _).alloc (by simp) _
 have Hm := Lib.hid hm
 clear hm
 go_enter Tryz.func65, Tryz.ntmps65
 go_upto_region 1 with (fail)
 generalize (w.alloc (.cells #[.string room] 9)).alloc (.cells #[.string slot] 9) = w1 at *
 have hbox_l := hbox.lt; have hbox_0 := hbox.cell 0; have hbox_1 := hbox.cell 1; have hbox_2 := hbox.cell 2; have hbox_3 := hbox.cell 3; have hbox_4 := hbox.cell 4; have hbox_5 := hbox.cell 5; have hbox_6 := hbox.cell 6; simp at hbox_0 hbox_1 hbox_2 hbox_3 hbox_4 hbox_5 hbox_6
 go_wp2_with fail
 clear hbox_l hbox_0 hbox_1 hbox_2 hbox_3 hbox_4 hbox_5 hbox_6
 refine (HTL.out paper _ (HPA.out _ hb0).grid).mono ?_
 rintro e w2 ⟨rfl, hb2⟩
 unfold talkV
 generalize talkOr g paper = t at *
 obtain ⟨t1, t2, t3, t4, t5, t6, t7, t8⟩ := t
 unfold Tlk.agg
 simp only
 have hnew := hb2.alloc hb2.size (.cells #[.string t1, .slice t5 t2.length t6, .slice t7 t3.length t8, .int .i64 t4] 60)
 have hbox2 := hbox.below hnew
 have hR2 := hR0.below hnew
 have hT2 := hT0.below hnew
 have hb3 := below_next hb0 hnew
 go_upto_region 2 with (fail)
 clear hbox hR0 hT0 hb0 hb2 hnew
 generalize w2.alloc (.cells #[.string t1, .slice t5 t2.length t6, .slice t7 t3.length t8, .int .i64 t4] 60) = w3 at *
 generalize (talkOf g paper).isSome = it at *
 have HRMk := Lib.hid (fun W => HRM.out room W)
 unfold roomV romV at HRMk
 generalize (roomOf g room).getD (⟨#[]⟩, 0) = rx at *
 obtain ⟨r1, r2⟩ := rx
 simp only at HRMk
 generalize (roomOf g room).isSome = isr at *
 go_cut [14] (fun v wx => v = .bool isr ∧ Below w3.heap.size w3 wx)
 case first =>
  have hc0 := hbox2.cell 0
  have hc1 := hbox2.cell 1
  have hc2 := hbox2.cell 2
  have hc3 := hbox2.cell 3
  have hc4 := hbox2.cell 4
  have hck := hR2.cell 0
  simp at hc0 hc1 hc2 hc3 hc4 hck
  have hPw := hbox2.lt
  have hKw := hR2.lt
  refine wp_regionF (S := (fun wx => wx.cell? ⟨P, 0, none⟩ = some (.slice g.ra g.rooms.length g.rc) ∧ wx.cell? ⟨P, 1, none⟩ = some (.slice g.sa g.slots.length g.sc) ∧ wx.cell? ⟨P, 2, none⟩ = some (.slice g.ta g.talks.length g.tc) ∧ wx.cell? ⟨P, 3, none⟩ = some (.slice g.wa g.wishes.length g.wc) ∧ wx.cell? ⟨P, 4, none⟩ = some (.slice g.ba g.bans.length g.bc) ∧ wx.cell? ⟨w.heap.size, 0, none⟩ = some (.string room) ∧ Below w3.heap.size w3 wx)) 11 (by kernel_rfl) ?hS (fun hHeld => ?_)
  case hS => exact ⟨hc0, hc1, hc2, hc3, hc4, hck, (Below.refl _ _).drew⟩
  refine rtakeF (i := 0) (d := (some 29)) (v := ?_) (n := 40) rfl (by kernel_rfl) (by kernel_rfl) (by kernel_rfl) (by kernel_rfl) (by kernel_rfl) (by kernel_rfl) (fun _ _ _ h => h) (by kernel_rfl) (by assumption) ?_ ?_
  rotate_left 1
  ·
   (intro wI hSI; (try dsimp only at hSI); go_simp; (try with_reducible rfl))
  simp only [Act.put, lsetA, lsetZ, lsetS]
  refine rtakeF (i := 1) (d := (some 30)) (v := ?_) (n := 40) rfl (by kernel_rfl) (by kernel_rfl) (by kernel_rfl) (by kernel_rfl) (by kernel_rfl) (by kernel_rfl) (fun _ _ _ h => h) (by kernel_rfl) (by assumption) ?_ ?_
  rotate_left 1
  ·
   (intro wI hSI; (try dsimp only at hSI); go_simp; (try with_reducible rfl))
  simp only [Act.put, lsetA, lsetZ, lsetS]
  refine rtakeF (i := 2) (d := (some 31)) (v := ?_) (n := 40) rfl (by kernel_rfl) (by kernel_rfl) (by kernel_rfl) (by kernel_rfl) (by kernel_rfl) (by kernel_rfl) (fun _ _ _ h => h) (by kernel_rfl) (by assumption) ?_ ?_
  rotate_left 1
  ·
   (intro wI hSI; (try dsimp only at hSI); go_simp; (try with_reducible rfl))
  simp only [Act.put, lsetA, lsetZ, lsetS]
  refine rtakeF (i := 3) (d := (some 32)) (v := ?_) (n := 40) rfl (by kernel_rfl) (by kernel_rfl) (by kernel_rfl) (by kernel_rfl) (by kernel_rfl) (by kernel_rfl) (fun _ _ _ h => h) (by kernel_rfl) (by assumption) ?_ ?_
  rotate_left 1
  ·
   (intro wI hSI; (try dsimp only at hSI); go_simp; (try with_reducible rfl))
  simp only [Act.put, lsetA, lsetZ, lsetS]
  refine rtakeF (i := 4) (d := (some 33)) (v := ?_) (n := 40) rfl (by kernel_rfl) (by kernel_rfl) (by kernel_rfl) (by kernel_rfl) (by kernel_rfl) (by kernel_rfl) (fun _ _ _ h => h) (by kernel_rfl) (by assumption) ?_ ?_
  rotate_left 1
  ·
   (intro wI hSI; (try dsimp only at hSI); go_simp; (try with_reducible rfl))
  simp only [Act.put, lsetA, lsetZ, lsetS]
  refine rcall2F (i := 5) (j := 9) (di := some 34) (dj := some 13) (by kernel_rfl) rfl (by kernel_rfl) rfl (by kernel_rfl) (fun K hK => ?_) (fun K hK => ?_)
  ·
   go_simp
   go_at_call 69; refine (HRMk.out _ (HPA.out _ (below_next hb3 hHeld.2.2.2.2.2.2)).grid).mono ?_; rintro e u1 ⟨rfl, hbK⟩
   refine hK.out _ _ (.inr ?hS) (fun hHeld0 => ?_)
   case hS => exact ⟨cell_later hbK hHeld.1, cell_later hbK hHeld.2.1, cell_later hbK hHeld.2.2.1, cell_later hbK hHeld.2.2.2.1, cell_later hbK hHeld.2.2.2.2.1, cell_later hbK hHeld.2.2.2.2.2.1, below_next hHeld.2.2.2.2.2.2 hbK⟩
   clear hK K
   have hHeld := hHeld0.resolve_left (by decide)
   simp only [Act.put, lsetA, lsetZ, lsetS]
   refine rtakeF (i := 6) (d := (some 28)) (v := ?_) (n := 40) rfl (by kernel_rfl) (by kernel_rfl) (by kernel_rfl) (by kernel_rfl) (by kernel_rfl) (by kernel_rfl) (fun _ _ _ h => h) (by kernel_rfl) (by assumption) ?_ ?_
   rotate_left 1
   ·
    (intro wI hSI; (try dsimp only at hSI); go_simp; (try with_reducible rfl))
   simp only [Act.put, lsetA, lsetZ, lsetS]
   refine rtakeF (i := 7) (d := (some 35)) (v := ?_) (n := 40) rfl (by kernel_rfl) (by kernel_rfl) (by kernel_rfl) (by kernel_rfl) (by kernel_rfl) (by kernel_rfl) (fun _ _ _ h => h) (by kernel_rfl) (by assumption) ?_ ?_
   rotate_left 1
   ·
    (intro wI hSI; (try dsimp only at hSI); go_simp; (try with_reducible rfl))
   simp only [Act.put, lsetA, lsetZ, lsetS]
   refine rtakeF (i := 8) (d := (some 36)) (v := ?_) (n := 40) rfl (by kernel_rfl) (by kernel_rfl) (by kernel_rfl) (by kernel_rfl) (by kernel_rfl) (by kernel_rfl) (fun _ _ _ h => h) (by kernel_rfl) (by assumption) ?_ ?_
   rotate_left 1
   ·
    (intro wI hSI; (try dsimp only at hSI); go_simp; (try with_reducible rfl))
   simp only [Act.put, lsetA, lsetZ, lsetS]
   have hql : w3.heap.size ≤ u1.heap.size := hHeld.2.2.2.2.2.2.size
   have hqb := Box.new u1 54 #[.string ⟨#[]⟩, .int .i64 0]
   have hbK := (Below.refl u1.heap.size u1).alloc (Nat.le_refl _) (.cells #[.string ⟨#[]⟩, .int .i64 0] 54)
   refine rcallF (i := 9) (d := (some 13)) (by kernel_rfl) rfl (by kernel_rfl) (fun K hK => ?_)
   go_simp
   refine hK.out _ _ (.inr ?hS) (fun hHeld0 => ?_)
   case hS => exact ⟨cell_later hbK hHeld.1, cell_later hbK hHeld.2.1, cell_later hbK hHeld.2.2.1, cell_later hbK hHeld.2.2.2.1, cell_later hbK hHeld.2.2.2.2.1, cell_later hbK hHeld.2.2.2.2.2.1, below_next hHeld.2.2.2.2.2.2 hbK⟩
   clear hK K
   have hHeld := hHeld0.resolve_left (by decide)
   simp only [Act.put, lsetA, lsetZ, lsetS]
   generalize u1.alloc (.cells #[.string ⟨#[]⟩, .int .i64 0] 54) = u2 at *
   generalize u1.heap.size = q at *
   have hqb_0 := hqb.cell 0
   have hqb_1 := hqb.cell 1
   have hqf_0 := hqb.frozen 0
   have hqf_1 := hqb.frozen 1
   simp at hqb_0 hqb_1
   have hbq : Below w3.heap.size w3 ((u2.setCell ⟨q, 0, none⟩ (.string r1)).setCell ⟨q, 1, none⟩ (.int .i64 r2)) := ((hHeld.2.2.2.2.2.2).setCell (p := ⟨q, 0, none⟩) hql _).setCell (p := ⟨q, 1, none⟩) hql _
   have hboxQ := hbox2.below hbq
   have hKQ := hR2.below hbq
   have hS2 : ((u2.setCell ⟨q, 0, none⟩ (.string r1)).setCell ⟨q, 1, none⟩ (.int .i64 r2)).cell? ⟨P, 0, none⟩ = some (.slice g.ra g.rooms.length g.rc) ∧ ((u2.setCell ⟨q, 0, none⟩ (.string r1)).setCell ⟨q, 1, none⟩ (.int .i64 r2)).cell? ⟨P, 1, none⟩ = some (.slice g.sa g.slots.length g.sc) ∧ ((u2.setCell ⟨q, 0, none⟩ (.string r1)).setCell ⟨q, 1, none⟩ (.int .i64 r2)).cell? ⟨P, 2, none⟩ = some (.slice g.ta g.talks.length g.tc) ∧ ((u2.setCell ⟨q, 0, none⟩ (.string r1)).setCell ⟨q, 1, none⟩ (.int .i64 r2)).cell? ⟨P, 3, none⟩ = some (.slice g.wa g.wishes.length g.wc) ∧ ((u2.setCell ⟨q, 0, none⟩ (.string r1)).setCell ⟨q, 1, none⟩ (.int .i64 r2)).cell? ⟨P, 4, none⟩ = some (.slice g.ba g.bans.length g.bc) ∧ ((u2.setCell ⟨q, 0, none⟩ (.string r1)).setCell ⟨q, 1, none⟩ (.int .i64 r2)).cell? ⟨w.heap.size, 0, none⟩ = some (.string room) ∧ Below w3.heap.size w3 ((u2.setCell ⟨q, 0, none⟩ (.string r1)).setCell ⟨q, 1, none⟩ (.int .i64 r2)) := ⟨hboxQ.cell 0, hboxQ.cell 1, hboxQ.cell 2, hboxQ.cell 3, hboxQ.cell 4, hKQ.cell 0, hbq⟩
   refine rcallF (i := 10) (d := none) (by kernel_rfl) rfl (by kernel_rfl) (fun K hK => ?_)
   go_simp
   refine hK.out undef _ (.inr ?hS) (fun hHeld0 => ?_)
   case hS => exact hS2
   clear hK K
   have hHeld := hHeld0.resolve_left (by decide)
   simp only [Act.put, lsetA, lsetZ, lsetS]
   refine rcallF (i := 11) (d := (some 14)) (by kernel_rfl) rfl (by kernel_rfl) (fun K hK => ?_)
   go_simp
   refine hK.out (.bool isr) _ (.inl rfl) (fun _ => ?_)
   clear hK K
   simp only [Act.put, lsetA, lsetZ, lsetS]
   refine wpAnyF_done (by kernel_rfl) ?_ _
   go_wp2_with fail
   go_meet
   exact ⟨rfl, hbq⟩
  ·
   go_simp
   have hql : w3.heap.size ≤ w3.heap.size := Nat.le_refl _
   have hqb : Box (w3.drew.alloc (.cells #[.string ⟨#[]⟩, .int .i64 0] 54)) w3.heap.size 54 #[.string ⟨#[]⟩, .int .i64 0] := Box.new w3.drew 54 #[.string ⟨#[]⟩, .int .i64 0]
   have hbK := (Below.refl w3.drew.heap.size w3.drew).alloc (Nat.le_refl _) (.cells #[.string ⟨#[]⟩, .int .i64 0] 54)
   refine hK.out _ _ (.inr ?hS) (fun hHeld0 => ?_)
   case hS => exact ⟨cell_later hbK hHeld.1, cell_later hbK hHeld.2.1, cell_later hbK hHeld.2.2.1, cell_later hbK hHeld.2.2.2.1, cell_later hbK hHeld.2.2.2.2.1, cell_later hbK hHeld.2.2.2.2.2.1, below_next hHeld.2.2.2.2.2.2 hbK⟩
   clear hK K
   have hHeld := hHeld0.resolve_left (by decide)
   simp only [Act.put, lsetA, lsetZ, lsetS]
   have hbA := hbK
   clear hbK
   refine rcallF (i := 5) (d := (some 34)) (by kernel_rfl) rfl (by kernel_rfl) (fun K hK => ?_)
   go_simp
   go_at_call 69; refine (HRMk.out _ (HPA.out _ (below_next hb3 hHeld.2.2.2.2.2.2)).grid).mono ?_; rintro e u1 ⟨rfl, hbK⟩; have hqb := hqb.below hbK
   refine hK.out _ _ (.inr ?hS) (fun hHeld0 => ?_)
   case hS => exact ⟨cell_later hbK hHeld.1, cell_later hbK hHeld.2.1, cell_later hbK hHeld.2.2.1, cell_later hbK hHeld.2.2.2.1, cell_later hbK hHeld.2.2.2.2.1, cell_later hbK hHeld.2.2.2.2.2.1, below_next hHeld.2.2.2.2.2.2 hbK⟩
   clear hK K
   have hHeld := hHeld0.resolve_left (by decide)
   simp only [Act.put, lsetA, lsetZ, lsetS]
   refine rtakeF (i := 6) (d := (some 28)) (v := ?_) (n := 40) rfl (by kernel_rfl) (by kernel_rfl) (by kernel_rfl) (by kernel_rfl) (by kernel_rfl) (by kernel_rfl) (fun _ _ _ h => h) (by kernel_rfl) (by assumption) ?_ ?_
   rotate_left 1
   ·
    (intro wI hSI; (try dsimp only at hSI); go_simp; (try with_reducible rfl))
   simp only [Act.put, lsetA, lsetZ, lsetS]
   refine rtakeF (i := 7) (d := (some 35)) (v := ?_) (n := 40) rfl (by kernel_rfl) (by kernel_rfl) (by kernel_rfl) (by kernel_rfl) (by kernel_rfl) (by kernel_rfl) (fun _ _ _ h => h) (by kernel_rfl) (by assumption) ?_ ?_
   rotate_left 1
   ·
    (intro wI hSI; (try dsimp only at hSI); go_simp; (try with_reducible rfl))
   simp only [Act.put, lsetA, lsetZ, lsetS]
   refine rtakeF (i := 8) (d := (some 36)) (v := ?_) (n := 40) rfl (by kernel_rfl) (by kernel_rfl) (by kernel_rfl) (by kernel_rfl) (by kernel_rfl) (by kernel_rfl) (fun _ _ _ h => h) (by kernel_rfl) (by assumption) ?_ ?_
   rotate_left 1
   ·
    (intro wI hSI; (try dsimp only at hSI); go_simp; (try with_reducible rfl))
   simp only [Act.put, lsetA, lsetZ, lsetS]
   have hqb_0 := hqb.cell 0
   have hqb_1 := hqb.cell 1
   have hqf_0 := hqb.frozen 0
   have hqf_1 := hqb.frozen 1
   simp at hqb_0 hqb_1
   have hbq : Below w3.heap.size w3 ((u1.setCell ⟨w3.heap.size, 0, none⟩ (.string r1)).setCell ⟨w3.heap.size, 1, none⟩ (.int .i64 r2)) := ((hHeld.2.2.2.2.2.2).setCell (p := ⟨w3.heap.size, 0, none⟩) hql _).setCell (p := ⟨w3.heap.size, 1, none⟩) hql _
   have hboxQ := hbox2.below hbq
   have hKQ := hR2.below hbq
   have hS2 : ((u1.setCell ⟨w3.heap.size, 0, none⟩ (.string r1)).setCell ⟨w3.heap.size, 1, none⟩ (.int .i64 r2)).cell? ⟨P, 0, none⟩ = some (.slice g.ra g.rooms.length g.rc) ∧ ((u1.setCell ⟨w3.heap.size, 0, none⟩ (.string r1)).setCell ⟨w3.heap.size, 1, none⟩ (.int .i64 r2)).cell? ⟨P, 1, none⟩ = some (.slice g.sa g.slots.length g.sc) ∧ ((u1.setCell ⟨w3.heap.size, 0, none⟩ (.string r1)).setCell ⟨w3.heap.size, 1, none⟩ (.int .i64 r2)).cell? ⟨P, 2, none⟩ = some (.slice g.ta g.talks.length g.tc) ∧ ((u1.setCell ⟨w3.heap.size, 0, none⟩ (.string r1)).setCell ⟨w3.heap.size, 1, none⟩ (.int .i64 r2)).cell? ⟨P, 3, none⟩ = some (.slice g.wa g.wishes.length g.wc) ∧ ((u1.setCell ⟨w3.heap.size, 0, none⟩ (.string r1)).setCell ⟨w3.heap.size, 1, none⟩ (.int .i64 r2)).cell? ⟨P, 4, none⟩ = some (.slice g.ba g.bans.length g.bc) ∧ ((u1.setCell ⟨w3.heap.size, 0, none⟩ (.string r1)).setCell ⟨w3.heap.size, 1, none⟩ (.int .i64 r2)).cell? ⟨w.heap.size, 0, none⟩ = some (.string room) ∧ Below w3.heap.size w3 ((u1.setCell ⟨w3.heap.size, 0, none⟩ (.string r1)).setCell ⟨w3.heap.size, 1, none⟩ (.int .i64 r2)) := ⟨hboxQ.cell 0, hboxQ.cell 1, hboxQ.cell 2, hboxQ.cell 3, hboxQ.cell 4, hKQ.cell 0, hbq⟩
   refine rcallF (i := 10) (d := none) (by kernel_rfl) rfl (by kernel_rfl) (fun K hK => ?_)
   go_simp
   refine hK.out undef _ (.inr ?hS) (fun hHeld0 => ?_)
   case hS => exact hS2
   clear hK K
   have hHeld := hHeld0.resolve_left (by decide)
   simp only [Act.put, lsetA, lsetZ, lsetS]
   refine rcallF (i := 11) (d := (some 14)) (by kernel_rfl) rfl (by kernel_rfl) (fun K hK => ?_)
   go_simp
   refine hK.out (.bool isr) _ (.inl rfl) (fun _ => ?_)
   clear hK K
   simp only [Act.put, lsetA, lsetZ, lsetS]
   refine wpAnyF_done (by kernel_rfl) ?_ _
   go_wp2_with fail
   go_meet
   exact ⟨rfl, hbq⟩
 case rest =>
  obtain ⟨hv2, hbC⟩ := hcut
  rw [hv2]
  clear hv2
  have hbox4 := hbox2.below hbC
  have hR4 := hR2.below hbC
  have hT4 := hT2.below hbC
  have hb4 := below_next hb3 hbC
  clear hbox2 hR2 hT2 hb3 hbC HRMk
  go_upto_region 3 with (fail)
  have HSLk := Lib.hid (fun W => HSL.out slot W)
  unfold slotV sltV at HSLk
  generalize slotOr g slot = sx at *
  obtain ⟨u1_, u2_, u3_⟩ := sx
  simp only at HSLk
  generalize (slotOf g slot).isSome = iss at *
  go_cut [16] (fun v wx => v = .bool iss ∧ Below wc.heap.size wc wx)
  case first =>
   have hc0 := hbox4.cell 0
   have hc1 := hbox4.cell 1
   have hc2 := hbox4.cell 2
   have hc3 := hbox4.cell 3
   have hc4 := hbox4.cell 4
   have hck := hT4.cell 0
   simp at hc0 hc1 hc2 hc3 hc4 hck
   have hPw := hbox4.lt
   have hKw := hT4.lt
   refine wp_regionF (S := (fun wx => wx.cell? ⟨P, 0, none⟩ = some (.slice g.ra g.rooms.length g.rc) ∧ wx.cell? ⟨P, 1, none⟩ = some (.slice g.sa g.slots.length g.sc) ∧ wx.cell? ⟨P, 2, none⟩ = some (.slice g.ta g.talks.length g.tc) ∧ wx.cell? ⟨P, 3, none⟩ = some (.slice g.wa g.wishes.length g.wc) ∧ wx.cell? ⟨P, 4, none⟩ = some (.slice g.ba g.bans.length g.bc) ∧ wx.cell? ⟨w.heap.size + 1, 0, none⟩ = some (.string slot) ∧ Below wc.heap.size wc wx)) 11 (by kernel_rfl) ?hS (fun hHeld => ?_)
   case hS => exact ⟨hc0, hc1, hc2, hc3, hc4, hck, (Below.refl _ _).drew⟩
   refine rtakeF (i := 0) (d := (some 38)) (v := ?_) (n := 40) rfl (by kernel_rfl) (by kernel_rfl) (by kernel_rfl) (by kernel_rfl) (by kernel_rfl) (by kernel_rfl) (fun _ _ _ h => h) (by kernel_rfl) (by assumption) ?_ ?_
   rotate_left 1
   ·
    (intro wI hSI; (try dsimp only at hSI); go_simp; (try with_reducible rfl))
   simp only [Act.put, lsetA, lsetZ, lsetS]
   refine rtakeF (i := 1) (d := (some 39)) (v := ?_) (n := 40) rfl (by kernel_rfl) (by kernel_rfl) (by kernel_rfl) (by kernel_rfl) (by kernel_rfl) (by kernel_rfl) (fun _ _ _ h => h) (by kernel_rfl) (by assumption) ?_ ?_
   rotate_left 1
   ·
    (intro wI hSI; (try dsimp only at hSI); go_simp; (try with_reducible rfl))
   simp only [Act.put, lsetA, lsetZ, lsetS]
   refine rtakeF (i := 2) (d := (some 40)) (v := ?_) (n := 40) rfl (by kernel_rfl) (by kernel_rfl) (by kernel_rfl) (by kernel_rfl) (by kernel_rfl) (by kernel_rfl) (fun _ _ _ h => h) (by kernel_rfl) (by assumption) ?_ ?_
   rotate_left 1
   ·
    (intro wI hSI; (try dsimp only at hSI); go_simp; (try with_reducible rfl))
   simp only [Act.put, lsetA, lsetZ, lsetS]
   refine rtakeF (i := 3) (d := (some 41)) (v := ?_) (n := 40) rfl (by kernel_rfl) (by kernel_rfl) (by kernel_rfl) (by kernel_rfl) (by kernel_rfl) (by kernel_rfl) (fun _ _ _ h => h) (by kernel_rfl) (by assumption) ?_ ?_
   rotate_left 1
   ·
    (intro wI hSI; (try dsimp only at hSI); go_simp; (try with_reducible rfl))
   simp only [Act.put, lsetA, lsetZ, lsetS]
   refine rtakeF (i := 4) (d := (some 42)) (v := ?_) (n := 40) rfl (by kernel_rfl) (by kernel_rfl) (by kernel_rfl) (by kernel_rfl) (by kernel_rfl) (by kernel_rfl) (fun _ _ _ h => h) (by kernel_rfl) (by assumption) ?_ ?_
   rotate_left 1
   ·
    (intro wI hSI; (try dsimp only at hSI); go_simp; (try with_reducible rfl))
   simp only [Act.put, lsetA, lsetZ, lsetS]
   refine rcall2F (i := 5) (j := 9) (di := some 43) (dj := some 15) (by kernel_rfl) rfl (by kernel_rfl) rfl (by kernel_rfl) (fun K hK => ?_) (fun K hK => ?_)
   ·
    go_simp
    go_at_call 68; refine (HSLk.out _ (HPA.out _ (below_next hb4 hHeld.2.2.2.2.2.2)).grid).mono ?_; rintro e u1 ⟨rfl, hbK⟩
    refine hK.out _ _ (.inr ?hS) (fun hHeld0 => ?_)
    case hS => exact ⟨cell_later hbK hHeld.1, cell_later hbK hHeld.2.1, cell_later hbK hHeld.2.2.1, cell_later hbK hHeld.2.2.2.1, cell_later hbK hHeld.2.2.2.2.1, cell_later hbK hHeld.2.2.2.2.2.1, below_next hHeld.2.2.2.2.2.2 hbK⟩
    clear hK K
    have hHeld := hHeld0.resolve_left (by decide)
    simp only [Act.put, lsetA, lsetZ, lsetS]
    refine rtakeF (i := 6) (d := (some 37)) (v := ?_) (n := 40) rfl (by kernel_rfl) (by kernel_rfl) (by kernel_rfl) (by kernel_rfl) (by kernel_rfl) (by kernel_rfl) (fun _ _ _ h => h) (by kernel_rfl) (by assumption) ?_ ?_
    rotate_left 1
    ·
     (intro wI hSI; (try dsimp only at hSI); go_simp; (try with_reducible rfl))
    simp only [Act.put, lsetA, lsetZ, lsetS]
    refine rtakeF (i := 7) (d := (some 44)) (v := ?_) (n := 40) rfl (by kernel_rfl) (by kernel_rfl) (by kernel_rfl) (by kernel_rfl) (by kernel_rfl) (by kernel_rfl) (fun _ _ _ h => h) (by kernel_rfl) (by assumption) ?_ ?_
    rotate_left 1
    ·
     (intro wI hSI; (try dsimp only at hSI); go_simp; (try with_reducible rfl))
    simp only [Act.put, lsetA, lsetZ, lsetS]
    refine rtakeF (i := 8) (d := (some 45)) (v := ?_) (n := 40) rfl (by kernel_rfl) (by kernel_rfl) (by kernel_rfl) (by kernel_rfl) (by kernel_rfl) (by kernel_rfl) (fun _ _ _ h => h) (by kernel_rfl) (by assumption) ?_ ?_
    rotate_left 1
    ·
     (intro wI hSI; (try dsimp only at hSI); go_simp; (try with_reducible rfl))
    simp only [Act.put, lsetA, lsetZ, lsetS]
    have hql : wc.heap.size ≤ u1.heap.size := hHeld.2.2.2.2.2.2.size
    have hqb := Box.new u1 56 #[.string ⟨#[]⟩, .int .i64 0, .int .i64 0]
    have hbK := (Below.refl u1.heap.size u1).alloc (Nat.le_refl _) (.cells #[.string ⟨#[]⟩, .int .i64 0, .int .i64 0] 56)
    refine rcallF (i := 9) (d := (some 15)) (by kernel_rfl) rfl (by kernel_rfl) (fun K hK => ?_)
    go_simp
    refine hK.out _ _ (.inr ?hS) (fun hHeld0 => ?_)
    case hS => exact ⟨cell_later hbK hHeld.1, cell_later hbK hHeld.2.1, cell_later hbK hHeld.2.2.1, cell_later hbK hHeld.2.2.2.1, cell_later hbK hHeld.2.2.2.2.1, cell_later hbK hHeld.2.2.2.2.2.1, below_next hHeld.2.2.2.2.2.2 hbK⟩
    clear hK K
    have hHeld := hHeld0.resolve_left (by decide)
    simp only [Act.put, lsetA, lsetZ, lsetS]
    generalize u1.alloc (.cells #[.string ⟨#[]⟩, .int .i64 0, .int .i64 0] 56) = u2 at *
    generalize u1.heap.size = q at *
    have hqb_0 := hqb.cell 0
    have hqb_1 := hqb.cell 1
    have hqb_2 := hqb.cell 2
    have hqf_0 := hqb.frozen 0
    have hqf_1 := hqb.frozen 1
    have hqf_2 := hqb.frozen 2
    simp at hqb_0 hqb_1 hqb_2
    have hbq : Below wc.heap.size wc (((u2.setCell ⟨q, 0, none⟩ (.string u1_)).setCell ⟨q, 1, none⟩ (.int .i64 u2_)).setCell ⟨q, 2, none⟩ (.int .i64 u3_)) := (((hHeld.2.2.2.2.2.2).setCell (p := ⟨q, 0, none⟩) hql _).setCell (p := ⟨q, 1, none⟩) hql _).setCell (p := ⟨q, 2, none⟩) hql _
    have hboxQ := hbox4.below hbq
    have hKQ := hT4.below hbq
    have hS2 : (((u2.setCell ⟨q, 0, none⟩ (.string u1_)).setCell ⟨q, 1, none⟩ (.int .i64 u2_)).setCell ⟨q, 2, none⟩ (.int .i64 u3_)).cell? ⟨P, 0, none⟩ = some (.slice g.ra g.rooms.length g.rc) ∧ (((u2.setCell ⟨q, 0, none⟩ (.string u1_)).setCell ⟨q, 1, none⟩ (.int .i64 u2_)).setCell ⟨q, 2, none⟩ (.int .i64 u3_)).cell? ⟨P, 1, none⟩ = some (.slice g.sa g.slots.length g.sc) ∧ (((u2.setCell ⟨q, 0, none⟩ (.string u1_)).setCell ⟨q, 1, none⟩ (.int .i64 u2_)).setCell ⟨q, 2, none⟩ (.int .i64 u3_)).cell? ⟨P, 2, none⟩ = some (.slice g.ta g.talks.length g.tc) ∧ (((u2.setCell ⟨q, 0, none⟩ (.string u1_)).setCell ⟨q, 1, none⟩ (.int .i64 u2_)).setCell ⟨q, 2, none⟩ (.int .i64 u3_)).cell? ⟨P, 3, none⟩ = some (.slice g.wa g.wishes.length g.wc) ∧ (((u2.setCell ⟨q, 0, none⟩ (.string u1_)).setCell ⟨q, 1, none⟩ (.int .i64 u2_)).setCell ⟨q, 2, none⟩ (.int .i64 u3_)).cell? ⟨P, 4, none⟩ = some (.slice g.ba g.bans.length g.bc) ∧ (((u2.setCell ⟨q, 0, none⟩ (.string u1_)).setCell ⟨q, 1, none⟩ (.int .i64 u2_)).setCell ⟨q, 2, none⟩ (.int .i64 u3_)).cell? ⟨w.heap.size + 1, 0, none⟩ = some (.string slot) ∧ Below wc.heap.size wc (((u2.setCell ⟨q, 0, none⟩ (.string u1_)).setCell ⟨q, 1, none⟩ (.int .i64 u2_)).setCell ⟨q, 2, none⟩ (.int .i64 u3_)) := ⟨hboxQ.cell 0, hboxQ.cell 1, hboxQ.cell 2, hboxQ.cell 3, hboxQ.cell 4, hKQ.cell 0, hbq⟩
    refine rcallF (i := 10) (d := none) (by kernel_rfl) rfl (by kernel_rfl) (fun K hK => ?_)
    go_simp
    refine hK.out undef _ (.inr ?hS) (fun hHeld0 => ?_)
    case hS => exact hS2
    clear hK K
    have hHeld := hHeld0.resolve_left (by decide)
    simp only [Act.put, lsetA, lsetZ, lsetS]
    refine rcallF (i := 11) (d := (some 16)) (by kernel_rfl) rfl (by kernel_rfl) (fun K hK => ?_)
    go_simp
    refine hK.out (.bool iss) _ (.inl rfl) (fun _ => ?_)
    clear hK K
    simp only [Act.put, lsetA, lsetZ, lsetS]
    refine wpAnyF_done (by kernel_rfl) ?_ _
    go_wp2_with fail
    go_meet
    exact ⟨rfl, hbq⟩
   ·
    go_simp
    have hql : wc.heap.size ≤ wc.heap.size := Nat.le_refl _
    have hqb : Box (wc.drew.alloc (.cells #[.string ⟨#[]⟩, .int .i64 0, .int .i64 0] 56)) wc.heap.size 56 #[.string ⟨#[]⟩, .int .i64 0, .int .i64 0] := Box.new wc.drew 56 #[.string ⟨#[]⟩, .int .i64 0, .int .i64 0]
    have hbK := (Below.refl wc.drew.heap.size wc.drew).alloc (Nat.le_refl _) (.cells #[.string ⟨#[]⟩, .int .i64 0, .int .i64 0] 56)
    refine hK.out _ _ (.inr ?hS) (fun hHeld0 => ?_)
    case hS => exact ⟨cell_later hbK hHeld.1, cell_later hbK hHeld.2.1, cell_later hbK hHeld.2.2.1, cell_later hbK hHeld.2.2.2.1, cell_later hbK hHeld.2.2.2.2.1, cell_later hbK hHeld.2.2.2.2.2.1, below_next hHeld.2.2.2.2.2.2 hbK⟩
    clear hK K
    have hHeld := hHeld0.resolve_left (by decide)
    simp only [Act.put, lsetA, lsetZ, lsetS]
    have hbA := hbK
    clear hbK
    refine rcallF (i := 5) (d := (some 43)) (by kernel_rfl) rfl (by kernel_rfl) (fun K hK => ?_)
    go_simp
    go_at_call 68; refine (HSLk.out _ (HPA.out _ (below_next hb4 hHeld.2.2.2.2.2.2)).grid).mono ?_; rintro e u1 ⟨rfl, hbK⟩; have hqb := hqb.below hbK
    refine hK.out _ _ (.inr ?hS) (fun hHeld0 => ?_)
    case hS => exact ⟨cell_later hbK hHeld.1, cell_later hbK hHeld.2.1, cell_later hbK hHeld.2.2.1, cell_later hbK hHeld.2.2.2.1, cell_later hbK hHeld.2.2.2.2.1, cell_later hbK hHeld.2.2.2.2.2.1, below_next hHeld.2.2.2.2.2.2 hbK⟩
    clear hK K
    have hHeld := hHeld0.resolve_left (by decide)
    simp only [Act.put, lsetA, lsetZ, lsetS]
    refine rtakeF (i := 6) (d := (some 37)) (v := ?_) (n := 40) rfl (by kernel_rfl) (by kernel_rfl) (by kernel_rfl) (by kernel_rfl) (by kernel_rfl) (by kernel_rfl) (fun _ _ _ h => h) (by kernel_rfl) (by assumption) ?_ ?_
    rotate_left 1
    ·
     (intro wI hSI; (try dsimp only at hSI); go_simp; (try with_reducible rfl))
    simp only [Act.put, lsetA, lsetZ, lsetS]
    refine rtakeF (i := 7) (d := (some 44)) (v := ?_) (n := 40) rfl (by kernel_rfl) (by kernel_rfl) (by kernel_rfl) (by kernel_rfl) (by kernel_rfl) (by kernel_rfl) (fun _ _ _ h => h) (by kernel_rfl) (by assumption) ?_ ?_
    rotate_left 1
    ·
     (intro wI hSI; (try dsimp only at hSI); go_simp; (try with_reducible rfl))
    simp only [Act.put, lsetA, lsetZ, lsetS]
    refine rtakeF (i := 8) (d := (some 45)) (v := ?_) (n := 40) rfl (by kernel_rfl) (by kernel_rfl) (by kernel_rfl) (by kernel_rfl) (by kernel_rfl) (by kernel_rfl) (fun _ _ _ h => h) (by kernel_rfl) (by assumption) ?_ ?_
    rotate_left 1
    ·
     (intro wI hSI; (try dsimp only at hSI); go_simp; (try with_reducible rfl))
    simp only [Act.put, lsetA, lsetZ, lsetS]
    have hqb_0 := hqb.cell 0
    have hqb_1 := hqb.cell 1
    have hqb_2 := hqb.cell 2
    have hqf_0 := hqb.frozen 0
    have hqf_1 := hqb.frozen 1
    have hqf_2 := hqb.frozen 2
    simp at hqb_0 hqb_1 hqb_2
    have hbq : Below wc.heap.size wc (((u1.setCell ⟨wc.heap.size, 0, none⟩ (.string u1_)).setCell ⟨wc.heap.size, 1, none⟩ (.int .i64 u2_)).setCell ⟨wc.heap.size, 2, none⟩ (.int .i64 u3_)) := (((hHeld.2.2.2.2.2.2).setCell (p := ⟨wc.heap.size, 0, none⟩) hql _).setCell (p := ⟨wc.heap.size, 1, none⟩) hql _).setCell (p := ⟨wc.heap.size, 2, none⟩) hql _
    have hboxQ := hbox4.below hbq
    have hKQ := hT4.below hbq
    have hS2 : (((u1.setCell ⟨wc.heap.size, 0, none⟩ (.string u1_)).setCell ⟨wc.heap.size, 1, none⟩ (.int .i64 u2_)).setCell ⟨wc.heap.size, 2, none⟩ (.int .i64 u3_)).cell? ⟨P, 0, none⟩ = some (.slice g.ra g.rooms.length g.rc) ∧ (((u1.setCell ⟨wc.heap.size, 0, none⟩ (.string u1_)).setCell ⟨wc.heap.size, 1, none⟩ (.int .i64 u2_)).setCell ⟨wc.heap.size, 2, none⟩ (.int .i64 u3_)).cell? ⟨P, 1, none⟩ = some (.slice g.sa g.slots.length g.sc) ∧ (((u1.setCell ⟨wc.heap.size, 0, none⟩ (.string u1_)).setCell ⟨wc.heap.size, 1, none⟩ (.int .i64 u2_)).setCell ⟨wc.heap.size, 2, none⟩ (.int .i64 u3_)).cell? ⟨P, 2, none⟩ = some (.slice g.ta g.talks.length g.tc) ∧ (((u1.setCell ⟨wc.heap.size, 0, none⟩ (.string u1_)).setCell ⟨wc.heap.size, 1, none⟩ (.int .i64 u2_)).setCell ⟨wc.heap.size, 2, none⟩ (.int .i64 u3_)).cell? ⟨P, 3, none⟩ = some (.slice g.wa g.wishes.length g.wc) ∧ (((u1.setCell ⟨wc.heap.size, 0, none⟩ (.string u1_)).setCell ⟨wc.heap.size, 1, none⟩ (.int .i64 u2_)).setCell ⟨wc.heap.size, 2, none⟩ (.int .i64 u3_)).cell? ⟨P, 4, none⟩ = some (.slice g.ba g.bans.length g.bc) ∧ (((u1.setCell ⟨wc.heap.size, 0, none⟩ (.string u1_)).setCell ⟨wc.heap.size, 1, none⟩ (.int .i64 u2_)).setCell ⟨wc.heap.size, 2, none⟩ (.int .i64 u3_)).cell? ⟨w.heap.size + 1, 0, none⟩ = some (.string slot) ∧ Below wc.heap.size wc (((u1.setCell ⟨wc.heap.size, 0, none⟩ (.string u1_)).setCell ⟨wc.heap.size, 1, none⟩ (.int .i64 u2_)).setCell ⟨wc.heap.size, 2, none⟩ (.int .i64 u3_)) := ⟨hboxQ.cell 0, hboxQ.cell 1, hboxQ.cell 2, hboxQ.cell 3, hboxQ.cell 4, hKQ.cell 0, hbq⟩
    refine rcallF (i := 10) (d := none) (by kernel_rfl) rfl (by kernel_rfl) (fun K hK => ?_)
    go_simp
    refine hK.out undef _ (.inr ?hS) (fun hHeld0 => ?_)
    case hS => exact hS2
    clear hK K
    have hHeld := hHeld0.resolve_left (by decide)
    simp only [Act.put, lsetA, lsetZ, lsetS]
    refine rcallF (i := 11) (d := (some 16)) (by kernel_rfl) rfl (by kernel_rfl) (fun K hK => ?_)
    go_simp
    refine hK.out (.bool iss) _ (.inl rfl) (fun _ => ?_)
    clear hK K
    simp only [Act.put, lsetA, lsetZ, lsetS]
    refine wpAnyF_done (by kernel_rfl) ?_ _
    go_wp2_with fail
    go_meet
    exact ⟨rfl, hbq⟩
  case rest =>
   obtain ⟨hv3, hbC⟩ := hcut
   rw [hv3]
   clear hv3
   have hbox5 := hbox4.below hbC
   have hR5 := hR4.below hbC
   have hT5 := hT4.below hbC
   have hb5 := below_next hb4 hbC
   clear hbox4 hR4 hT4 hb4 hbC HSLk
   generalize wc = w5 at *
   cases it
   ·
    go_wp2_with fail
    go_ret
    exact HUN.out 8 _ hb5
   ·
    cases isr
    ·
     go_wp2_with fail
     go_ret
     exact HUN.out 8 _ hb5
    ·
     cases iss
     ·
      go_wp2_with fail
      go_ret
      exact HUN.out 8 _ hb5
     ·
      have hPA5 := HPA.out _ hb5
      have hmL : m < L.length := by have := Hm.out; omega
      have hnP := hPA5.hP
      have hnl : n0 ≤ w.heap.size := by omega
      obtain ⟨sa, sc, hstv, hsas, -, -⟩ := hPA5.st.form
      have hLm : L[m] = ⟨pa, p.length, pc⟩ := by
       have h1 := hPA5.last
       rw [show L.length - 1 = m by have := Hm.out; omega, List.getElem?_eq_getElem hmL] at h1
       exact Option.some.inj h1
      obtain ⟨sb, soff, hsa', hcm⟩ := hsas.at (i := m) hmL
      have hcs := hcm 0 (by decide)
      rw [show soff + (m * Cel.k PHd + 0) = soff + m from by show soff + (m * 1 + 0) = _; omega, hLm] at hcs
      have hcs : w5.cell? ⟨sb, soff + m, none⟩ = some (.slice pa p.length pc) := hcs
      have Hstl := Lib.hid hPA5.st.lt
      have HW := Lib.hid (fun W (h : Below w5.heap.size w5 W) => without_any p pa pc paper n W (hPA5.prg.below h) hPA5.hf (by omega) (by omega) HO.out)
      rw [hsa'] at hstv
      rw [hstv] at hbox5
      have hm1 : (0 : Int) ≤ (m : Int) := by omega
      have hm2 : (m : Int) < (L.length : Int) := by omega
      have Hstv := Lib.hid hstv
      have hnz := hb5.size
      clear hPA5 hsas hcm hLm hsa' hstv hmL
      go_upto_region 6 with (fail)
      have hp5 := hbox5.cell 5
      have hp6 := hbox5.cell 6
      simp at hp5 hp6
      refine wp_region_held_drew (S := (fun wx => wx.cell? ⟨P, 5, none⟩ = some (.slice (some ⟨sb, soff, none⟩) L.length sc) ∧ wx.cell? ⟨P, 6, none⟩ = some (.int .i64 (m : Nat)) ∧ wx.cell? ⟨sb, soff + m, none⟩ = some (.slice pa p.length pc) ∧ Below w5.heap.size w5 wx)) (by kernel_rfl) ?hS (fun hHeld => ?_)
      case hS => exact ⟨hp5, hp6, hcs, (Below.refl _ _).drew⟩
      refine rt 0 (some 56) ?_
      refine rt 1 (some 57) ?_
      refine rt 2 (some 58) ?_
      refine rt 3 (some 59) ?_
      refine rt 4 (some 60) ?_
      refine rt 5 (some 61) ?_
      refine rt 6 (some 62) ?_
      refine rt 7 (some 63) ?_
      refine rt 8 (some 64) ?_
      refine rt 9 (some 65) ?_
      refine rt 10 (some 66) ?_
      refine rcall (i := 11) (d := (some 67)) (by kernel_rfl) rfl (by kernel_rfl) (fun K hK => ?_)
      go_simp
      go_at_call 116; refine (HW.out _ hHeld.2.2.2).mono ?_; rintro e w6 ⟨v, l, rfl, hpw, hll, hlo, hb6⟩
      refine hK.out _ _ ?hS (fun hHeld => ?_)
      case hS => exact ⟨cell_later hb6 hHeld.1, cell_later hb6 hHeld.2.1, cell_later hb6 hHeld.2.2.1, below_next hHeld.2.2.2 hb6⟩
      clear hK K
      simp only [Act.put, lsetA, lsetZ, lsetS]
      refine rt 12 (some 17) ?_
      refine wpAnyH_done (by kernel_rfl) ?_ _
      have hpw : PW w5.heap.size w6 v l := hpw
      have hbc6 := hHeld.2.2.2
      have hR6 := hR5.below hbc6
      have hT6 := hT5.below hbc6
      clear hHeld hp5 hp6 hcs hb6 hbox5 hR5 hT5 HW
      obtain ⟨a1, cp1, rfl, hsa1, -, -⟩ := hpw.own.form
      have hl1 : l.length ≤ n := by omega
      have HI := Lib.hid (indexSes_any l a1 cp1 118 #[.pointer (some ⟨w.heap.size + 1, 0, none⟩), .pointer (some ⟨w.heap.size, 0, none⟩)] (fun s => decide (s.slot = slot) && decide (s.room = room)) w6 (enters_of Tryz.func118 (by kernel_rfl) rfl) hsa1 (by omega) (fun s hs W hW => placeClo_any s slot room (w.heap.size + 1) w.heap.size W ((hT6.below hW).cell 0) ((hR6.below hW).cell 0)))
      have hbd := idxI_bd (fun s : Ses => decide (s.slot = slot) && decide (s.room = room)) l
      generalize idxI (fun s : Ses => decide (s.slot = slot) && decide (s.room = room)) l = ix at *
      clear hsa1
      go_wp2_with fail
      refine HI.out.mono ?_
      rintro e w7 ⟨r, rfl, -, hb7, rfl⟩
      have hpw7 := hpw.below hb7
      have hR7 := hR6.below hb7
      have hT7 := hT6.below hb7
      have hbc7 := below_next hbc6 hb7
      have Hlo := Lib.hid hlo
      clear HI hpw hR6 hT6 hbc6 hb7 hlo hll
      go_upto_if 72 with (fail)
      go_cut [17, 18] (fun v17 v18 wx => ∃ (l2 : List Ses) (k : Nat) (a2 : Option Addr) (cp2 : Nat), v17 = .slice a2 l2.length cp2 ∧ v18 = .int .i64 (k : Nat) ∧ k < l2.length ∧ PW w5.heap.size wx (.slice a2 l2.length cp2) l2 ∧ l2.length ≤ n + 1 ∧ (∀ s ∈ l2, SesN n s) ∧ Below w5.heap.size w5 wx)
      case first =>
       by_cases hr : r < 0
       ·
        have hd : decide (r < 0) = true := decide_eq_true hr
        have hown8 := hpw7.own.alloc (.cells #[.string slot, .string room, .slice none 0 0] 67)
        have hpw8 := hpw7.alloc (.cells #[.string slot, .string room, .slice none 0 0] 67)
        have hbo := Box.new w7 67 #[.string slot, .string room, .slice none 0 0]
        have hbc8 := hbc7.alloc hbc7.size (.cells #[.string slot, .string room, .slice none 0 0] 67)
        have hz8 := hbc7.size
        have hol := hown8.lt
        have hR0 := hR7.cell 0
        have hT0 := hT7.cell 0
        simp at hR0 hT0
        have hw : IntKind.i64.wrap ((l.length : Int) + 1 - 1) = (l.length : Int) := by rw [IntWalk.i64_in _ (by omega)]; omega
        have hr2 : ¬ (0 ≤ r) := by omega
        clear hbd hpw7
        go_upto_region 10 with (at_builtin; refine wpList_append_lie (α := Ses) rfl _ _ 34 rfl 67 56 (.agg #[.string ⟨#[]⟩, .string ⟨#[]⟩, .slice none 0 0]) Tryz.underlying34 cloneSesInfo rfl _ l rfl hown8 (⟨slot, room, [], none, 0⟩ : Ses) _ rfl hbo (by omega) (by omega) (by simp; omega) ?_; intro g9 cap9 w9 hown9 hg9 hat9)
        have hbc9 := hbc8.grown hg9 (by simp; omega) (fun j hj => (hol j hj).1)
        have hpw9 := hpw8.snoc (x := (⟨slot, room, [], none, 0⟩ : Ses)) (Own.nil _ _ _) (fun j hj e => by cases e) (fun y hy j hj e => by cases e) hg9 hown9 (fun j hj => by
         obtain rfl : g9 = j := Option.some.inj hj
         exact hat9.imp id (fun e => Nat.le_of_eq e.symm))
        have Hpw9 := Lib.hid hpw9
        have Hbc9 := Lib.hid hbc9
        clear hown8 hpw8 hbo hbc8 hol hR7 hT7 hR0 hT0 hg9 hown9 hat9 hpw9 hbc9 hbc7
        go_wp2_with fail
        go_meet
        refine ⟨l ++ [⟨slot, room, [], none, 0⟩], l.length, some ⟨g9, 0, none⟩, cap9, by rw [List.length_append]; rfl, rfl, by rw [List.length_append]; simp, ?_, by rw [List.length_append]; simp; omega, ?_, Hbc9.out⟩
        ·
         rw [List.length_append]; exact Hpw9.out
        ·
         intro s hs
         rcases List.mem_append.1 hs with h1 | h1
         ·
          exact (Hlo.out s h1).1
         ·
          rw [List.mem_singleton] at h1
          subst h1
          exact ⟨hs3, hs2, Nat.zero_le _, fun x hx => by cases hx⟩
       ·
        have hd : decide (r < 0) = false := decide_eq_false hr
        obtain ⟨k, rfl⟩ := Int.eq_ofNat_of_zero_le (show 0 ≤ r by omega)
        go_wp2_with fail
        go_meet
        exact ⟨l, k, a1, cp1, rfl, rfl, by omega, hpw7, by omega, fun s hs => (Hlo.out s hs).1, hbc7⟩
      case rest =>
       clear hpw7 hR7 hT7 hbc7 Hlo hl1 hbd
       obtain ⟨l2, k, a2, cp2, e17, e18, hk, hpw2, hl2, hlo2, hbc2⟩ := hcut
       rw [e17, e18]
       clear e17 e18
       obtain ⟨g2, rfl⟩ : ∃ g2, a2 = some ⟨g2, 0, none⟩ := by
        obtain ⟨a', c', he, hsa, hfm, -⟩ := hpw2.own.form
        simp only [Value.slice.injEq] at he
        rcases hfm with h1 | ⟨b, h1, -, -⟩
        ·
         rcases hsa with h2 | ⟨b, off, h2, -⟩
         ·
          rw [h2] at hk; simp at hk
         ·
          rw [h1] at h2; cases h2
        ·
         exact ⟨b, he.1.trans h1⟩
       have hm : l2[k] ∈ l2 := List.getElem_mem hk
       have hsal : SA wc (some ⟨g2, 0, none⟩) l2 := by obtain ⟨a', c', he, hh, _⟩ := hpw2.own.sa; simp only [Value.slice.injEq] at he; rw [he.1]; exact hh
       obtain ⟨mb, moff, ha', -, -, c2⟩ := hsal.sesC hk
       cases ha'
       rw [Nat.zero_add] at c2
       have hyn := hlo2 _ hm
       have hyo := hpw2.inn _ hm
       have hya := hpw2.apt _ hm
       have hbw := below_next hb5 hbc2
       have hzw := hbc2.size
       have hpwA := hpw2.alloc (.cells #[.string paper] 9)
       have hyoA := hyo.alloc (.cells #[.string paper] 9)
       have hwA : (wc.alloc (.cells #[.string paper] 9)).heap.size = wc.heap.size + 1 := by simp
       have HINS : Hid (Calls Tryz.prog 119 #[l2[k].pv, .int .i64 0, .slice (some ⟨wc.heap.size, 0, none⟩) 1 1] (wc.alloc (.cells #[.string paper] 9)) (fun e w' => ∃ v', e = .returned v' ∧ Own w5.heap.size 9 w' v' (paper :: l2[k].papers) ∧ Kp (fun j => l2[k].pv.ownBlock = some j) (wc.alloc (.cells #[.string paper] 9)) w' ∧ ∀ j, v'.ownBlock = some j → l2[k].pv.ownBlock = some j ∨ (wc.alloc (.cells #[.string paper] 9)).heap.size ≤ j)) :=
        insertStr_any w5.heap.size l2[k].papers l2[k].pv _ hyoA 0 (Nat.zero_le _) paper wc.heap.size (Box.new _ _ _) (fun j hj => (hyo.lt j hj).2) (by omega) (by have := hyn.2.2.1; omega)
       have HST := Lib.hid (fun (w1 : World) (a2 : Option Addr) (c2 : Nat) (v2 : Value) (hv2 : v2 = .slice a2 (paper :: l2[k].papers).length c2) (hkp : Kp (fun j => l2[k].pv.ownBlock = some j) (wc.alloc (.cells #[.string paper] 9)) w1) (h2 : Own w5.heap.size 9 w1 v2 (paper :: l2[k].papers)) (hat : ∀ j, v2.ownBlock = some j → l2[k].pv.ownBlock = some j ∨ (wc.alloc (.cells #[.string paper] 9)).heap.size ≤ j) => PW.papers hpwA hk hv2 hkp h2 hat)
       have Hn2 : Hid (∀ (a2 : Option Addr) (c2 : Nat), ∀ s ∈ l2.set k ⟨l2[k].slot, l2[k].room, paper :: l2[k].papers, a2, c2⟩, SesN (n + 1) s) := fun a2 c2 s hs => by
        rcases List.mem_or_eq_of_mem_set hs with h | rfl
        ·
         exact (hlo2 s h).mono (by omega)
        ·
         obtain ⟨q1, q2, q3, q4⟩ := hyn
         refine ⟨q1, q2, by show (paper :: l2[k].papers).length ≤ _; rw [List.length_cons]; omega, fun y hy => ?_⟩
         rcases List.mem_cons.1 hy with rfl | hy
         ·
          exact hs1
         ·
          exact q4 y hy
       have Hl2 : Hid (∀ y : Ses, (l2.set k y).length = l2.length) := fun y => List.length_set ..
       obtain ⟨cr, hbx⟩ := hpwA.own.box
       have Hyl := Lib.hid hyo.lt
       have Hgb := Lib.hid (hpw2.own.lt g2 rfl)
       have hpl3 := hyn.2.2.1
       have hy0 : decide ((l2[k].papers.length : Int) < 0) = false := decide_eq_false (by omega)
       have HPV : Hid (l2[k].pv = .slice l2[k].a1 l2[k].papers.length l2[k].c1) := rfl
       clear hsal hpw2 hpwA hm hyo hyoA hyn hlo2
       have hla : (paper :: l2[k].papers).length = l2[k].papers.length + 1 := rfl
       generalize paper :: l2[k].papers = ps at *
       have Hya := Lib.hid hya
       clear hya
       generalize hpv : l2[k].pv = pv at *
       generalize l2[k].papers.length = y3 at *
       generalize l2[k].a1 = y4 at *
       generalize l2[k].c1 = y5 at *
       rw [HPV.out] at HINS
       have Hla := Lib.hid hla
       clear hla hpv
       have hk1 : (0 : Int) ≤ (k : Int) := by omega
       have hk2 : (k : Int) < (l2.length : Int) := by omega
       go_wp2_with fail
       refine HINS.out.mono ?_
       rintro e w10 ⟨v2, rfl, h2, hkp, hat⟩
       obtain ⟨a3, cp3, rfl, -, -, -⟩ := h2.form
       rw [← HPV.out] at hkp hat
       have hgn : ¬ (pv.ownBlock = some g2) := fun e => Hya.out g2 rfl e
       have c2A := cell_later ((Below.refl wc.heap.size wc).alloc (Nat.le_refl _) (.cells #[.string paper] 9)) c2
       have c22 := cellKp hkp hgn c2A
       have hfr2 := (hbx.kp hkp hgn).frozen (k * 3 + 2)
       have hpw3 := HST.out w10 a3 cp3 _ rfl hkp h2 hat
       have hbA := hbw.alloc (by have := hbw.size; omega) (.cells #[.string paper] 9)
       have hbk := below_kp hbA hkp (fun j hj => by have := (Hyl.out j hj).1; omega) (by simp; omega)
       have hbF := hbk.setCell (p := ⟨g2, k * 3 + 2, none⟩) (by have := Hgb.out.1; show w.heap.size ≤ g2; omega) (.slice a3 ps.length cp3)
       have hn3 := Hn2.out a3 cp3
       have Hl3 := Hl2.out (⟨l2[k].slot, l2[k].room, ps, a3, cp3⟩ : Ses)
       generalize l2.set k ⟨l2[k].slot, l2[k].room, ps, a3, cp3⟩ = l3 at *
       have hSORT := Lib.hid (sortSes_any w5.heap.size l3 (.slice (some ⟨g2, 0, none⟩) l2.length cp2) (w10.setCell ⟨g2, k * 3 + 2, none⟩ (.slice a3 ps.length cp3)) 70 (enters_of Tryz.func70 (by kernel_rfl) rfl) (fun x y W => sessionOrder_any x y W) hpw3.own (by omega))
       have Hgb2 := Lib.hid hpw3.own.lt
       clear HINS HST h2 hkp hat hbx c2 c2A hbA hbk Hn2 Hl2 HUN
       go_wp2_with fail
       refine hSORT.out.mono ?_
       rintro e w11 ⟨rfl, hown11, hkp11⟩
       have hperm := sortSes_perm l3
       have hpw11 := hpw3.turn hkp11 hown11 (fun j hj => hj) (fun x hx => (hperm.mem_iff).1 hx) ((List.Perm.pairwise_iff (R := fun x y : Ses => Apt x.pv y.pv) (fun h => h.symm) hperm).2 hpw3.dis)
       have hbw11 := below_kp hbF hkp11 (fun j hj => by have := (Hgb2.out j hj).1; omega) (by have := hbF.size; omega)
       have hlen11 := sortSes_len l3
       have hn11 : ∀ s ∈ sortSes l3, SesN (n + 1) s := fun s hs => hn3 s ((hperm.mem_iff).1 hs)
       generalize sortSes l3 = l4 at *
       have hl4 : l4.length = l2.length := by have := Hl3; omega
       rw [← hl4] at hpw11
       have HTK := Lib.hid (take_any w11 (HPA.out _ hbw11) HZM.out (by omega) w5.heap.size (some ⟨g2, 0, none⟩) cp2 l4 hpw11 (by omega) (by omega) (fun j hj => by have := (Hstl.out j hj).2; exact this) (by omega) (fun s hs => (hn11 s hs).mono (by omega)))
       rw [hl4] at HTK
       clear hSORT hown11 hkp11 hpw11 hpw3
       go_wp2_with fail
       refine HTK.out.mono ?_
       rintro e w12 ⟨er, stV', L', pa', pc', p', rfl, hA, hQ, hLL, hat, hkp⟩
       go_wp2_with fail
       go_ret
       refine ⟨er, stV', L', pa', pc', p', rfl, hA, ?_, hLL, fun j hj => (hat j hj).imp id (fun e => by have := hbw11.size; omega), (Kp.of_below hbw11).trans hkp⟩
       rcases hQ with rfl | ⟨rfl, hf⟩
       ·
        exact ⟨by omega, fun s hs => (HO.out s hs).mono (by omega), .inl rfl⟩
       ·
        exact ⟨by omega, hn11, .inr hf⟩
end Go.Proofs.YtldgphhiajhfhaaGreatDoor

/-! The reference's plan: NewPlan and Sessions. -/
namespace Go.Proofs.YtldgphhiajhfhaaGreatDoor
open Go.RowKit
set_option linter.unusedVariables false
set_option linter.unusedSimpArgs false

set_option maxRecDepth 100000 in
set_option maxHeartbeats 4000000 in
theorem newPlan_any (S : Nat) (g : Grd) (w : World) (hg : ∀ W : World, (∀ k, k < w.heap.size → k ≠ S → W.heap[k]? = w.heap[k]?) → GRd W g) (hS : S < w.heap.size) :
  Calls Tryz.prog 63 #[g.agg] w (fun e w' => ∃ P stV, e = .returned (.pointer (some ⟨P, 0, none⟩)) ∧ PlanAt S w.heap.size P g stV [⟨none, 0, 0⟩] none 0 [] w' ∧ Below w.heap.size w w') := by
 rw [Grd.agg_eq]
 have hb : Below w.heap.size w (((w.alloc (.cells #[.slice g.ra g.rooms.length g.rc, .slice g.sa g.slots.length g.sc, .slice g.ta g.talks.length g.tc, .slice g.wa g.wishes.length g.wc, .slice g.ba g.bans.length g.bc] 32)).alloc (.cells #[.slice none 0 0] 34)).alloc (.cells #[.slice g.ra g.rooms.length g.rc, .slice g.sa g.slots.length g.sc, .slice g.ta g.talks.length g.tc, .slice g.wa g.wishes.length g.wc, .slice g.ba g.bans.length g.bc, .slice (some ⟨w.heap.size + 1, 0, none⟩) 1 1, .int .i64 0] 176)) := (((Below.refl _ _).alloc (Nat.le_refl _) _).alloc (by simp) _).alloc (by simp; omega) _
 have hP := Box.newAt ((w.alloc (.cells #[.slice g.ra g.rooms.length g.rc, .slice g.sa g.slots.length g.sc, .slice g.ta g.talks.length g.tc, .slice g.wa g.wishes.length g.wc, .slice g.ba g.bans.length g.bc] 32)).alloc (.cells #[.slice none 0 0] 34)) (w.heap.size + 1 + 1) 176 #[.slice g.ra g.rooms.length g.rc, .slice g.sa g.slots.length g.sc, .slice g.ta g.talks.length g.tc, .slice g.wa g.wishes.length g.wc, .slice g.ba g.bans.length g.bc, .slice (some ⟨w.heap.size + 1, 0, none⟩) 1 1, .int .i64 0] (by simp)
 have hs := (Box.newAt (w.alloc (.cells #[.slice g.ra g.rooms.length g.rc, .slice g.sa g.slots.length g.sc, .slice g.ta g.talks.length g.tc, .slice g.wa g.wishes.length g.wc, .slice g.ba g.bans.length g.bc] 32)) (w.heap.size + 1) 34 #[.slice none 0 0] (by simp)).alloc (.cells #[.slice g.ra g.rooms.length g.rc, .slice g.sa g.slots.length g.sc, .slice g.ta g.talks.length g.tc, .slice g.wa g.wishes.length g.wc, .slice g.ba g.bans.length g.bc, .slice (some ⟨w.heap.size + 1, 0, none⟩) 1 1, .int .i64 0] 176)
 have hX := Box.new w 32 #[.slice g.ra g.rooms.length g.rc, .slice g.sa g.slots.length g.sc, .slice g.ta g.talks.length g.tc, .slice g.wa g.wishes.length g.wc, .slice g.ba g.bans.length g.bc]
 go_enter Tryz.func63, Tryz.ntmps63
 have hX_l := hX.lt; have hX_0 := hX.cell 0; have hX_1 := hX.cell 1; have hX_2 := hX.cell 2; have hX_3 := hX.cell 3; have hX_4 := hX.cell 4; simp at hX_0 hX_1 hX_2 hX_3 hX_4
 go_wp2_with fail
 go_ret
 refine ⟨w.heap.size + 1 + 1, .slice (some ⟨w.heap.size + 1, 0, none⟩) 1 1, rfl, ⟨hP, ?_, rfl, ⟨.inl rfl, (fun s hs => by cases hs)⟩, .inl rfl, Nat.le_refl _, (fun y hy => ?_), (fun W hW => hg W (fun k hk hkS => by rw [hW k hk hkS]; exact hb.block k hk)), by omega, hS, ?_⟩, hb⟩
 ·
  exact Own.laid (cap := 1) (l := [(⟨none, 0, 0⟩ : PHd)]) hs (by omega) rfl (by decide) (by decide) (fun i j x hx hj => by
   cases i with
   | zero =>
    cases hx
    have hj0 : j = 0 := by have : j < 1 := hj; omega
    subst hj0
    exact hs.cell 0
   | succ i => simp at hx)
 ·
  rcases hy with h | ⟨s, hs, -⟩
  ·
   cases h
  ·
   cases hs
 ·
  intro e
  have h5 : w.heap.size + 1 = w.heap.size + 1 + 1 := Option.some.inj e
  omega
set_option maxRecDepth 100000 in
set_option maxHeartbeats 4000000 in
theorem sessions_any {S n0 P : Nat} {g : Grd} {stV : Value} {L : List PHd} {pa : Option Addr} {pc : Nat} {p : List Ses} (w : World) (h : PlanAt S n0 P g stV L pa pc p w) (hL : L.length ≤ 100000) (hpl : p.length ≤ 1000) (ho : ∀ s ∈ p, SesN 1000 s) :
  Calls Tryz.prog 66 #[.pointer (some ⟨P, 0, none⟩)] w (fun e w' => ∃ v l, e = .returned v ∧ PW w.heap.size w' v l ∧ l.map Ses.cnt = p.map Ses.cnt ∧ Below w.heap.size w w') := by
 obtain ⟨m, hm⟩ : ∃ m, L.length = m + 1 := ⟨L.length - 1, by have := h.pos; omega⟩
 have hbox := h.box
 rw [show (L.length : Int) - 1 = (m : Int) by omega] at hbox
 have hmL : m < L.length := by omega
 obtain ⟨sa, sc, hstv, hsas, -, -⟩ := h.st.form
 have hLm : L[m] = ⟨pa, p.length, pc⟩ := by
  have h1 := h.last
  rw [show L.length - 1 = m by omega, List.getElem?_eq_getElem hmL] at h1
  exact Option.some.inj h1
 obtain ⟨sb, soff, hsa', hcm⟩ := hsas.at (i := m) hmL
 have hcs := hcm 0 (by decide)
 rw [show soff + (m * Cel.k PHd + 0) = soff + m from by show soff + (m * 1 + 0) = _; omega, hLm] at hcs
 have hcs : w.cell? ⟨sb, soff + m, none⟩ = some (.slice pa p.length pc) := hcs
 rw [hsa'] at hstv
 rw [hstv] at hbox
 have HC := Lib.hid (fun W (hb : Below w.heap.size w W) => copied_any p pa pc W (h.prg.below hb) h.hf (by omega) (fun s hs => by have := (ho s hs).2.2.1; omega))
 have hm1 : (0 : Int) ≤ (m : Int) := by omega
 have hm2 : (m : Int) < (L.length : Int) := by omega
 have Hm := Lib.hid hm
 clear hm hsas hcm hLm hsa' hstv hmL h
 go_enter Tryz.func66, Tryz.ntmps66
 go_upto_region 1 with (fail)
 have hp5 := hbox.cell 5
 have hp6 := hbox.cell 6
 simp at hp5 hp6
 refine wp_region_held_drew (S := (fun wx => wx.cell? ⟨P, 5, none⟩ = some (.slice (some ⟨sb, soff, none⟩) L.length sc) ∧ wx.cell? ⟨P, 6, none⟩ = some (.int .i64 (m : Nat)) ∧ wx.cell? ⟨sb, soff + m, none⟩ = some (.slice pa p.length pc) ∧ Below w.heap.size w wx)) (by kernel_rfl) ?hS (fun hHeld => ?_)
 case hS => exact ⟨hp5, hp6, hcs, (Below.refl _ _).drew⟩
 refine rt 0 (some 3) ?_
 refine rt 1 (some 4) ?_
 refine rt 2 (some 5) ?_
 refine rt 3 (some 6) ?_
 refine rt 4 (some 7) ?_
 refine rt 5 (some 8) ?_
 refine rt 6 (some 9) ?_
 refine rt 7 (some 10) ?_
 refine rt 8 (some 11) ?_
 refine rt 9 (some 12) ?_
 refine rcall (i := 10) (d := (some 13)) (by kernel_rfl) rfl (by kernel_rfl) (fun K hK => ?_)
 go_simp
 go_at_call 122; refine (HC.out _ hHeld.2.2.2).mono ?_; rintro e w6 ⟨v, l, rfl, hpw, hcl, hb6⟩
 refine hK.out _ _ ?hS (fun hHeld => ?_)
 case hS => exact ⟨cell_later hb6 hHeld.1, cell_later hb6 hHeld.2.1, cell_later hb6 hHeld.2.2.1, below_next hHeld.2.2.2 hb6⟩
 clear hK K
 simp only [Act.put, lsetA, lsetZ, lsetS]
 refine rt 11 (some 2) ?_
 refine wpAnyH_done (by kernel_rfl) ?_ _
 have hpw : PW w.heap.size w6 v l := hpw
 have hbF := hHeld.2.2.2
 go_wp2_with fail
 go_ret
 exact ⟨v, l, rfl, hpw, hcl, hbF⟩
/-! The fault of a programme asks for its contents alone. -/
def strip (s : Ses) : Ses := ⟨s.slot, s.room, s.papers, none, 0⟩
theorem sesBehind_strip (p : List Ses) (i : Nat) : sesBehind (p.map strip) i = sesBehind p i := by
 unfold sesBehind
 rw [List.getElem?_map]
 by_cases h : 0 < i
 ·
  rw [if_pos h, if_pos h, List.getElem?_map]
  cases p[i]? <;> cases p[i - 1]? <;> rfl
 ·
  rw [if_neg h, if_neg h]
  cases p[i]? <;> rfl
theorem sesE_strip (g : Grd) (p : List Ses) : sesE g (p.map strip) = sesE g p := by
 funext i
 unfold sesE
 rw [List.getElem?_map, sesBehind_strip, ← List.map_take, List.flatMap_map]
 cases p[i]? <;> rfl
theorem cflE_strip (g : Grd) (p : List Ses) : cflE g (p.map strip) = cflE g p := by
 funext i
 unfold cflE
 rw [List.getElem?_map, ← List.map_take]
 cases p[i]? with
 | none => rfl
 | some s =>
  simp only [Option.map_some, List.any_map]
  rfl
theorem fault_strip (g : Grd) (p : List Ses) : progFault g (p.map strip) = progFault g p := by
 unfold progFault
 rw [List.length_map, sesE_strip, cflE_strip]
theorem strip_cnt {l p : List Ses} (h : l.map Ses.cnt = p.map Ses.cnt) : l.map strip = p.map strip := by
 have e : ∀ r : List Ses, r.map strip = (r.map Ses.cnt).map (fun c => ⟨c.1, c.2.1, c.2.2, none, 0⟩) := fun r => by rw [List.map_map]; rfl
 rw [e, e, h]
theorem fault_cnt (g : Grd) {l p : List Ses} (h : l.map Ses.cnt = p.map Ses.cnt) : progFault g l = progFault g p := by
 rw [← fault_strip g l, ← fault_strip g p, strip_cnt h]
end Go.Proofs.YtldgphhiajhfhaaGreatDoor
