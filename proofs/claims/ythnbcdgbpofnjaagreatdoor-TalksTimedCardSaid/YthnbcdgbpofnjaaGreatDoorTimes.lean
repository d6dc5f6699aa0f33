/- When talks are, by the program and by the reference. -/
import Derived.Test.YthnbcdgbpofnjaaGreatDoorTmd
import Derived.Test.YthnbcdgbpofnjaaGreatDoorCost
import Derived.Test.YthnbcdgbpofnjaaGreatDoorBesd
/-! When talks are, by the program and by the reference. -/
namespace Go.Proofs.YthnbcdgbpofnjaaGreatDoor
open Go.RowKit Go.Sort
set_option linter.unusedVariables false
set_option linter.unusedSimpArgs false

/-- The talks of a session, one behind the other. -/
def tmdsTo (g : Grd) (sl rm : ByteArray) (f : Int) (ps : List ByteArray) : Nat → List Tmd
 | 0 => []
 | j + 1 => tmdsTo g sl rm f ps j ++ (match ps[j]? with
  | none => []
  | some x => [(x, sl, rm, f + longN g (ps.take j), f + longN g (ps.take (j + 1)))])
theorem tmdsTo_succ {g : Grd} {sl rm : ByteArray} {f : Int} {ps : List ByteArray} {j : Nat} (h : j < ps.length) : tmdsTo g sl rm f ps (j + 1) = tmdsTo g sl rm f ps j ++ [(ps[j], sl, rm, f + longN g (ps.take j), f + longN g (ps.take (j + 1)))] := by
 show tmdsTo g sl rm f ps j ++ (match ps[j]? with | none => [] | some x => [(x, sl, rm, f + longN g (ps.take j), f + longN g (ps.take (j + 1)))]) = _
 rw [List.getElem?_eq_getElem h]
theorem tmdsTo_len (g : Grd) (sl rm : ByteArray) (f : Int) (ps : List ByteArray) : ∀ j, (tmdsTo g sl rm f ps j).length ≤ j
 | 0 => Nat.le_refl _
 | j + 1 => by
  show (tmdsTo g sl rm f ps j ++ (match ps[j]? with | none => [] | some x => [(x, sl, rm, f + longN g (ps.take j), f + longN g (ps.take (j + 1)))])).length ≤ _
  have h := tmdsTo_len g sl rm f ps j
  rw [List.length_append]
  split <;> simp <;> omega
def sesTmds (g : Grd) (s : Ses) : List Tmd := tmdsTo g s.slot s.room (slotOr g s.slot).2.1 s.papers s.papers.length
def timesTo (g : Grd) (p : List Ses) : Nat → List Tmd
 | 0 => []
 | k + 1 => timesTo g p k ++ (match p[k]? with
  | none => []
  | some s => sesTmds g s)
def timesL (g : Grd) (p : List Ses) : List Tmd := timesTo g p p.length
theorem timesTo_succ {g : Grd} {p : List Ses} {k : Nat} (h : k < p.length) : timesTo g p (k + 1) = timesTo g p k ++ sesTmds g p[k] := by
 show timesTo g p k ++ (match p[k]? with | none => [] | some s => sesTmds g s) = _
 rw [List.getElem?_eq_getElem h]
theorem timesTo_len {g : Grd} {p : List Ses} (h : ∀ s ∈ p, s.papers.length ≤ 1000) : ∀ k, k ≤ p.length → (timesTo g p k).length ≤ 1000 * k
 | 0, _ => Nat.le_refl _
 | k + 1, hk => by
  rw [timesTo_succ (by omega : k < p.length), List.length_append]
  have h1 := timesTo_len (g := g) h k (by omega)
  have h2 := tmdsTo_len g (p[k]'(by omega)).slot (p[k]'(by omega)).room (slotOr g (p[k]'(by omega)).slot).2.1 (p[k]'(by omega)).papers (p[k]'(by omega)).papers.length
  have h3 := h (p[k]'(by omega)) (List.getElem_mem _)
  unfold sesTmds
  omega
theorem slt_field1 (a : ByteArray) (b c : Int) (w : World) : (Instr.field 38 (.agg #[.string a, .int .i64 b, .int .i64 c]) 1).run Tryz.prog w = .ok (.int .i64 b) w := by kernel_rfl
theorem tlk_field3 (a d e f : Value) (w : World) : (Instr.field 101 (.agg #[a, d, e, f]) 3).run Tryz.prog w = .ok f w := by kernel_rfl
theorem infoTmd : (Tryz.prog.info? 86).map (fun i => (i.zero, i.size, i.bytes)) = some (some (.agg #[.string ⟨#[]⟩, .string ⟨#[]⟩, .string ⟨#[]⟩, .int .i64 0, .int .i64 0]), 5, 64) := by kernel_rfl
set_option maxRecDepth 100000 in
set_option maxHeartbeats 8000000 in
theorem timesP_any (g : Grd) (fb br bs bt bb : Nat) (p : List Ses) (pa : Option Addr) (pc : Nat) (w : World) (hF : FieldAt g fb br bs bt bb w) (hg : GRd w g) (hz : GSm g) (hn : GNd g) (hp : PRg w pa p) (hpl : p.length ≤ 1000) (hpo : ∀ s ∈ p, SesOk s) (hok : ∀ s ∈ p, (slotOf g s.slot).isSome = true ∧ ∀ x ∈ s.papers, (talkOf g x).isSome = true) :
  Calls Tryz.prog 92 #[.pointer (some ⟨fb, 0, none⟩), .slice pa p.length pc] w (GivesOwn 86 (sortTmd (timesL g p)) w) := by
 have HSL := Lib.hid (fun key W (h : Below w.heap.size w W) hk => slotP_any g fb br bs bt bb key W (hF.below h) (hg.below h) hz hn.slots hk)
 have HTK := Lib.hid (fun key W (h : Below w.heap.size w W) hk => talkP_any g fb br bs bt bb key W (hF.below h) (hg.below h) hz hn.talks hk)
 have HP := Lib.hid (fun W (h : Below w.heap.size w W) => hp.below h)
 have HPO := Lib.hid hpo
 have HOK := Lib.hid hok
 have HSO := Lib.hid (fun k => slotOr_ok hz k)
 have HTO := Lib.hid (fun k => talkOr_ok hz k)
 have HLB := Lib.hid (fun ps k hk => longN_bd hz ps k hk)
 have HR : Hid (timesL g p = timesTo g p p.length) := rfl
 have HL := Lib.hid (timesTo_len (g := g) (fun s hs => (hpo s hs).2.2.1))
 have HSRT := Lib.hid (fun base v l W (h : Own base 86 W v l) hl => sortTmds_any base l v W 137 (enters_of Tryz.func137 (by kernel_rfl) rfl) (fun x y W => timesClo_any x y W) h hl)
 generalize timesL g p = R at *
 clear hF hg hz hn hp hpo hok
 go_enter Tryz.func92, Tryz.ntmps92
 go_wp2_with fail
 go_loopg [5, 14] p.length (fun gk v' iv wr => ∃ (k : Nat) (v : Value), v = v' ∧ iv = .int .i64 k ∧ k ≤ p.length ∧ Hid (gk = p.length - k) ∧ Own w.heap.size 86 wr v (timesTo g p k) ∧ Below w.heap.size w wr)
 case atStart => exact ⟨0, _, rfl, rfl, by omega, rfl, Own.nil _ _ _, Below.refl _ _⟩
 case round =>
  obtain ⟨k, v, rfl, rfl, hk, hgk, hown, hb⟩ := hrel
  by_cases hlt : k < p.length
  ·
   obtain ⟨b, off, ha, c0, c1, c2⟩ := (HP.out _ hb).list.sesC hlt
   have hxm : p[k] ∈ p := List.getElem_mem hlt
   have HXP := Lib.hid (fun W (h : Below w.heap.size w W) => (HP.out W h).papers _ hxm)
   obtain ⟨hx1, hx2, hxl, hx4⟩ := HPO.out _ hxm
   have HX4 := Lib.hid hx4
   have HXT := Lib.hid (HOK.out _ hxm).2
   have HSLx := Lib.hid (fun W (h : Below w.heap.size w W) => HSL.out p[k].slot W h (HOK.out _ hxm).1)
   have hsok := HSO.out p[k].slot
   have Hsu := Lib.hid (timesTo_succ (g := g) hlt)
   have hll := HL.out k hk
   unfold sesTmds at Hsu
   generalize timesTo g p k = acc at *
   have Ha := Lib.hid ha
   generalize p[k] = x at *
   obtain ⟨s1, s2, s3, s4, s5⟩ := x
   simp only at c0 c1 c2 HXP hxl Hsu HXT HSLx hsok HX4
   generalize slotOr g s1 = q at *
   obtain ⟨q1, q2, q3⟩ := q
   unfold sltV at HSLx
   simp only at HSLx hsok Hsu
   obtain ⟨-, hs2, hs3, -, -⟩ := hsok
   have Hs2 := Lib.hid hs2
   have Hs3 := Lib.hid hs3
   rw [ha]
   clear ha hxm hx1 hx2 hx4 hs2 hs3
   go_upto_region 5 with (fail)
   have hE1 := Box.new wr 91 #[.string s1, .string s2, .slice s4 s3.length s5]
   have hb1 := hb.alloc hb.size (.cells #[.string s1, .string s2, .slice s4 s3.length s5] 91)
   have hown1 := hown.alloc (.cells #[.string s1, .string s2, .slice s4 s3.length s5] 91)
   have hvn1 : v.ownBlock ≠ some wr.heap.size := fun e => by have := (hown.lt _ e).2; omega
   clear hb hown c0 c1 c2
   generalize wr.alloc (.cells #[.string s1, .string s2, .slice s4 s3.length s5] 91) = w2 at *
   generalize wr.heap.size = n2 at *
   have hE1_l := hE1.lt; have hE1_0 := hE1.cell 0; have hE1_1 := hE1.cell 1; have hE1_2 := hE1.cell 2; simp at hE1_0 hE1_1 hE1_2
   go_wp2_with fail
   clear hE1_l hE1_0 hE1_1 hE1_2
   refine (HSLx.out _ hb1).mono ?_
   rintro e w3 ⟨rfl, hb3⟩
   have hfd := slt_field1 q1 q2 q3 w3
   have hE3 := hE1.below hb3
   have hown3 := hown1.below hb3
   have hb3' := below_next hb1 hb3
   clear hE1 hb1 hown1 hb3 HSLx
   have hE3_l := hE3.lt; have hE3_0 := hE3.cell 0; have hE3_1 := hE3.cell 1; have hE3_2 := hE3.cell 2; simp at hE3_0 hE3_1 hE3_2
   go_wp2_with fail
   clear hE3_l hE3_0 hE3_1 hE3_2
   clear hfd
   go_loopg [5, 8, 26] s3.length (fun gj v' av jv wq => ∃ (j : Nat) (v2 : Value), v2 = v' ∧ av = .int .i64 (q2 + longN g (s3.take j)) ∧ jv = .int .i64 j ∧ j ≤ s3.length ∧ Hid (gj = s3.length - j) ∧ Own w.heap.size 86 wq v2 (acc ++ tmdsTo g s1 s2 q2 s3 j) ∧ v2.ownBlock ≠ some n2 ∧ Box wq n2 91 #[.string s1, .string s2, .slice s4 s3.length s5] ∧ Below w.heap.size w wq)
   case atStart => exact ⟨0, _, rfl, by show _ = Value.int .i64 (q2 + 0); rw [Int.add_zero], rfl, by omega, rfl, by show Own _ _ _ _ (acc ++ []); rw [List.append_nil]; exact hown3, hvn1, hE3, hb3'⟩
   case round =>
    clear hE3 hown3 hb3' hvn1
    obtain ⟨j, v2, rfl, rfl, rfl, hj, hgj, hown, hvn, hE, hb⟩ := hrel
    by_cases hjl : j < s3.length
    ·
     obtain ⟨tb, toff, ha4, u0⟩ := (HXP.out _ hb).str hjl
     have Hts := Lib.hid (tmdsTo_succ (g := g) (sl := s1) (rm := s2) (f := q2) hjl)
     have Hln := Lib.hid (longN_succ g hjl)
     have hbd := HLB.out s3 j (by omega)
     have hbl := tmdsTo_len g s1 s2 q2 s3 j
     have hym : s3[j] ∈ s3 := List.getElem_mem hjl
     have HTx := Lib.hid (fun W (h : Below w.heap.size w W) => HTK.out s3[j] W h (HXT.out _ hym))
     have htok := HTO.out s3[j]
     have Ha4 := Lib.hid ha4
     rw [Hln.out] at Hts
     rw [ha4]
     clear ha4 hym
     generalize s3[j] = y at *
     generalize hln : longN g (s3.take j) = ln at *
     generalize hac : acc ++ tmdsTo g s1 s2 q2 s3 j = ac at *
     have Hac := Lib.hid hac
     have hacl : ac.length ≤ 1000 * k + j := by rw [← hac, List.length_append]; omega
     clear hln hac hbl
     generalize talkOr g y = t at *
     obtain ⟨t1, t2, t3, t4, t5, t6, t7, t8⟩ := t
     obtain ⟨-, -, -, -, -, hto1, hto2⟩ := htok
     unfold Tlk.agg at HTx
     simp only at hto1 hto2 HTx Hts Hln
     have hw : IntKind.i64.wrap (q2 + ln + t4) = q2 + ln + t4 := IntWalk.i64_in _ (by have := Hs2.out; have := Hs3.out; omega)
     go_wp2_with fail
     refine (HTx.out _ hb).mono ?_
     rintro e w5 ⟨rfl, hb5⟩
     have hfd := tlk_field3 (.string t1) (.slice t5 t2.length t6) (.slice t7 t3.length t8) (.int .i64 t4) w5
     have hE5 := hE.below hb5
     have hown5 := hown.below hb5
     have hb6 := below_next hb hb5
     clear hE hown hb hb5 HTx u0
     have hown6 := hown5.alloc (.cells #[.string y, .string s1, .string s2, .int .i64 (q2 + ln), .int .i64 (q2 + ln + t4)] 86)
     have hbo := Box.new w5 86 #[.string y, .string s1, .string s2, .int .i64 (q2 + ln), .int .i64 (q2 + ln + t4)]
     have hb7 := hb6.alloc hb6.size (.cells #[.string y, .string s1, .string s2, .int .i64 (q2 + ln), .int .i64 (q2 + ln + t4)] 86)
     have hE6 := hE5.alloc (.cells #[.string y, .string s1, .string s2, .int .i64 (q2 + ln), .int .i64 (q2 + ln + t4)] 86)
     have hol := hown6.lt
     have hEl := hE5.lt
     have hbz := hb6.size
     have hE5_l := hE5.lt; have hE5_0 := hE5.cell 0; have hE5_1 := hE5.cell 1; have hE5_2 := hE5.cell 2; simp at hE5_0 hE5_1 hE5_2
     go_upto_region 11 with (at_builtin; refine wpList_append_lie (α := Tmd) rfl _ _ 77 rfl 86 64 (.agg #[.string ⟨#[]⟩, .string ⟨#[]⟩, .string ⟨#[]⟩, .int .i64 0, .int .i64 0]) Tryz.underlying77 infoTmd rfl _ ac rfl hown6 (y, s1, s2, q2 + ln, q2 + ln + t4) _ rfl hbo (by omega) (by omega) (by simp; omega) ?_; intro g9 cap9 w9 hown9 hg9 hat9)
     clear hE5_l hE5_0 hE5_1 hE5_2
     have hb9 := hb7.grown hg9 (by have := hb7.size; omega) (fun j hj => by have := (hol j hj).1; omega)
     have hE9 := hE6.grown hg9 (fun e => hvn e.symm)
     have hvn9 : (Value.slice (some ⟨g9, 0, none⟩) (ac.length + 1) cap9).ownBlock ≠ some n2 := fun e => by
      obtain rfl : g9 = n2 := Option.some.inj e
      rcases hat9 with h | h
      ·
       exact hvn h
      ·
       simp at h; omega
     have hown10 : Own w.heap.size 86 w9 (.slice (some ⟨g9, 0, none⟩) (ac.length + 1) cap9) (acc ++ tmdsTo g s1 s2 q2 s3 (j + 1)) := by rw [Hts.out, ← List.append_assoc, Hac.out, ← Int.add_assoc]; exact hown9
     clear hE5 hown5 hb6 hown6 hbo hb7 hE6 hol hEl hbz hg9 hat9 hown9 hfd hvn
     go_wp2_with fail
     rw [← Ha4.out]
     go_roundg (s3.length - (j + 1))
     case measure => have := hgj.out; omega
     case rel => exact ⟨j + 1, _, rfl, by rw [Hln.out, Int.add_assoc], by go_num, by omega, rfl, hown10, hvn9, hE9, hb9⟩
    ·
     obtain rfl : j = s3.length := by omega
     rw [← Hsu.out] at hown
     go_wp2_with fail
     rw [← Ha.out]
     go_roundg (p.length - (k + 1))
     case measure => have := hgk.out; omega
     case rel => exact ⟨k + 1, _, rfl, by go_num, by omega, rfl, hown, hb⟩
  ·
   obtain rfl : k = p.length := by omega
   have hll := HL.out p.length (Nat.le_refl _)
   rw [← HR.out] at hown hll
   clear HR HL
   go_wp2_with fail
   refine (HSRT.out _ v R _ hown (by omega)).mono ?_
   rintro e w9 ⟨rfl, hown9, hk9⟩
   have hb9 := belowKp hb hk9 (fun j hj => (hown.lt j hj).1) hb.size
   go_wp2_with fail
   go_ret
   exact ⟨_, rfl, hown9, hb9⟩
set_option maxRecDepth 100000 in
set_option maxHeartbeats 8000000 in
theorem timesOf_any (g : Grd) (p : List Ses) (pa : Option Addr) (pc : Nat) (w : World) (hg : GRd w g) (hz : GSm g) (hp : PRg w pa p) (hpl : p.length ≤ 1000) (hpo : ∀ s ∈ p, SesOk s) :
  Calls Tryz.prog 41 #[g.agg, .slice pa p.length pc] w (GivesOwn 86 (sortTmd (timesL g p)) w) := by
 have HSL := Lib.hid (fun key W (h : Below w.heap.size w W) => slotOf_any g key W (hg.below h) (by have := hz.slots; omega))
 have HTK := Lib.hid (fun key W (h : Below w.heap.size w W) => talkOf_any g key W (hg.below h) (by have := hz.talks; omega))
 have HP := Lib.hid (fun W (h : Below w.heap.size w W) => hp.below h)
 have HPO := Lib.hid hpo
 have HSO := Lib.hid (fun k => slotOr_ok hz k)
 have HTO := Lib.hid (fun k => talkOr_ok hz k)
 have HLB := Lib.hid (fun ps k hk => longN_bd hz ps k hk)
 have HR : Hid (timesL g p = timesTo g p p.length) := rfl
 have HL := Lib.hid (timesTo_len (g := g) (fun s hs => (hpo s hs).2.2.1))
 have HSRT := Lib.hid (fun base v l W (h : Own base 86 W v l) hl => sortTmds_any base l v W 102 (enters_of Tryz.func102 (by kernel_rfl) rfl) (fun x y W => timesOfClo_any x y W) h hl)
 generalize timesL g p = R at *
 clear hg hz hp hpo
 rw [Grd.agg_eq] at HSL HTK ⊢
 have hX := Box.new w 32 #[.slice g.ra g.rooms.length g.rc, .slice g.sa g.slots.length g.sc, .slice g.ta g.talks.length g.tc, .slice g.wa g.wishes.length g.wc, .slice g.ba g.bans.length g.bc]
 have hb0 : Below w.heap.size w (w.alloc (.cells #[.slice g.ra g.rooms.length g.rc, .slice g.sa g.slots.length g.sc, .slice g.ta g.talks.length g.tc, .slice g.wa g.wishes.length g.wc, .slice g.ba g.bans.length g.bc] 32)) := (Below.refl _ _).alloc (Nat.le_refl _) _
 have hz0 : (w.alloc (.cells #[.slice g.ra g.rooms.length g.rc, .slice g.sa g.slots.length g.sc, .slice g.ta g.talks.length g.tc, .slice g.wa g.wishes.length g.wc, .slice g.ba g.bans.length g.bc] 32)).heap.size = w.heap.size + 1 := by simp
 go_enter Tryz.func41, Tryz.ntmps41
 go_upto_region 1 with (fail)
 generalize w.alloc (.cells #[.slice g.ra g.rooms.length g.rc, .slice g.sa g.slots.length g.sc, .slice g.ta g.talks.length g.tc, .slice g.wa g.wishes.length g.wc, .slice g.ba g.bans.length g.bc] 32) = w1 at *
 go_wp2_with fail
 go_loopg [5, 17] p.length (fun gk v' iv wr => ∃ (k : Nat) (v : Value), v = v' ∧ iv = .int .i64 k ∧ k ≤ p.length ∧ Hid (gk = p.length - k) ∧ Own (w.heap.size + 1) 86 wr v (timesTo g p k) ∧ Box wr w.heap.size 32 #[.slice g.ra g.rooms.length g.rc, .slice g.sa g.slots.length g.sc, .slice g.ta g.talks.length g.tc, .slice g.wa g.wishes.length g.wc, .slice g.ba g.bans.length g.bc] ∧ Below w.heap.size w wr)
 case atStart => exact ⟨0, _, rfl, rfl, by omega, rfl, Own.nil _ _ _, hX, hb0⟩
 case round =>
  clear hX hb0 hz0
  obtain ⟨k, v, rfl, rfl, hk, hgk, hown, hX, hb⟩ := hrel
  by_cases hlt : k < p.length
  ·
   obtain ⟨b, off, ha, c0, c1, c2⟩ := (HP.out _ hb).list.sesC hlt
   have hxm : p[k] ∈ p := List.getElem_mem hlt
   have HXP := Lib.hid (fun W (h : Below w.heap.size w W) => (HP.out W h).papers _ hxm)
   have hxl := (HPO.out _ hxm).2.2.1
   have hsok := HSO.out p[k].slot
   have HSLx := Lib.hid (fun W (h : Below w.heap.size w W) => HSL.out p[k].slot W h)
   have Hsu := Lib.hid (timesTo_succ (g := g) hlt)
   have hll := HL.out k hk
   unfold sesTmds at Hsu
   generalize timesTo g p k = acc at *
   have Ha := Lib.hid ha
   generalize p[k] = x at *
   obtain ⟨s1, s2, s3, s4, s5⟩ := x
   simp only at c0 c1 c2 HXP hxl Hsu HSLx hsok
   unfold slotV at HSLx
   generalize slotOr g s1 = q at *
   obtain ⟨q1, q2, q3⟩ := q
   unfold sltV at HSLx
   simp only at HSLx hsok Hsu
   obtain ⟨-, hs2, hs3, -, -⟩ := hsok
   have Hs2 := Lib.hid hs2
   have Hs3 := Lib.hid hs3
   rw [ha]
   clear ha hxm hs2 hs3
   go_upto_region 5 with (fail)
   have hE1 := Box.new wr 91 #[.string s1, .string s2, .slice s4 s3.length s5]
   have hb1 := hb.alloc hb.size (.cells #[.string s1, .string s2, .slice s4 s3.length s5] 91)
   have hX1 := hX.alloc (.cells #[.string s1, .string s2, .slice s4 s3.length s5] 91)
   have hown1 := hown.alloc (.cells #[.string s1, .string s2, .slice s4 s3.length s5] 91)
   have hvn1 : v.ownBlock ≠ some wr.heap.size := fun e => by have := (hown.lt _ e).2; omega
   have hzr : w.heap.size + 1 ≤ (wr.alloc (.cells #[.string s1, .string s2, .slice s4 s3.length s5] 91)).heap.size := by have := hX.lt; simp; omega
   clear hb hown hX c0 c1 c2
   generalize wr.alloc (.cells #[.string s1, .string s2, .slice s4 s3.length s5] 91) = w2 at *
   generalize wr.heap.size = n2 at *
   have hE1_l := hE1.lt; have hE1_0 := hE1.cell 0; have hE1_1 := hE1.cell 1; have hE1_2 := hE1.cell 2; simp at hE1_0 hE1_1 hE1_2
   have hX1_l := hX1.lt; have hX1_0 := hX1.cell 0; have hX1_1 := hX1.cell 1; have hX1_2 := hX1.cell 2; have hX1_3 := hX1.cell 3; have hX1_4 := hX1.cell 4; simp at hX1_0 hX1_1 hX1_2 hX1_3 hX1_4
   go_wp2_with fail
   clear hE1_l hE1_0 hE1_1 hE1_2
   clear hX1_l hX1_0 hX1_1 hX1_2 hX1_3 hX1_4
   refine (HSLx.out _ hb1).mono ?_
   rintro e w3 ⟨rfl, hb3⟩
   go_upto_region 6 with (fail)
   have hE3 := (hE1.below hb3).alloc (.cells #[.string q1, .int .i64 q2, .int .i64 q3] 38)
   have hX3 := (hX1.below hb3).alloc (.cells #[.string q1, .int .i64 q2, .int .i64 q3] 38)
   have hown3 := (hown1.below hb3).alloc (.cells #[.string q1, .int .i64 q2, .int .i64 q3] 38)
   have hb3' := (below_next hb1 hb3).alloc (below_next hb1 hb3).size (.cells #[.string q1, .int .i64 q2, .int .i64 q3] 38)
   have hQ := Box.new w3 38 #[.string q1, .int .i64 q2, .int .i64 q3]
   have hzr3 : w.heap.size + 1 ≤ (w3.alloc (.cells #[.string q1, .int .i64 q2, .int .i64 q3] 38)).heap.size := by have := hb3.size; simp; omega
   clear hE1 hX1 hb1 hown1 hb3 HSLx hzr
   generalize w3.alloc (.cells #[.string q1, .int .i64 q2, .int .i64 q3] 38) = w4 at *
   generalize w3.heap.size = n3 at *
   have hE3_l := hE3.lt; have hE3_0 := hE3.cell 0; have hE3_1 := hE3.cell 1; have hE3_2 := hE3.cell 2; simp at hE3_0 hE3_1 hE3_2
   have hQ_l := hQ.lt; have hQ_0 := hQ.cell 0; have hQ_1 := hQ.cell 1; have hQ_2 := hQ.cell 2; simp at hQ_0 hQ_1 hQ_2
   go_wp2_with fail
   clear hE3_l hE3_0 hE3_1 hE3_2
   clear hQ_l hQ_0 hQ_1 hQ_2
   clear hQ
   go_loopg [5, 10, 33] s3.length (fun gj v' av jv wq => ∃ (j : Nat) (v2 : Value), v2 = v' ∧ av = .int .i64 (q2 + longN g (s3.take j)) ∧ jv = .int .i64 j ∧ j ≤ s3.length ∧ Hid (gj = s3.length - j) ∧ Own (w.heap.size + 1) 86 wq v2 (acc ++ tmdsTo g s1 s2 q2 s3 j) ∧ v2.ownBlock ≠ some n2 ∧ Box wq n2 91 #[.string s1, .string s2, .slice s4 s3.length s5] ∧ Box wq w.heap.size 32 #[.slice g.ra g.rooms.length g.rc, .slice g.sa g.slots.length g.sc, .slice g.ta g.talks.length g.tc, .slice g.wa g.wishes.length g.wc, .slice g.ba g.bans.length g.bc] ∧ w.heap.size + 1 ≤ wq.heap.size ∧ Below w.heap.size w wq)
   case atStart => exact ⟨0, _, rfl, by show _ = Value.int .i64 (q2 + 0); rw [Int.add_zero], rfl, by omega, rfl, by show Own _ _ _ _ (acc ++ []); rw [List.append_nil]; exact hown3, hvn1, hE3, hX3, hzr3, hb3'⟩
   case round =>
    clear hE3 hX3 hown3 hb3' hvn1 hzr3
    obtain ⟨j, v2, rfl, rfl, rfl, hj, hgj, hown, hvn, hE, hX, hzq, hb⟩ := hrel
    by_cases hjl : j < s3.length
    ·
     obtain ⟨tb, toff, ha4, u0⟩ := (HXP.out _ hb).str hjl
     have Hts := Lib.hid (tmdsTo_succ (g := g) (sl := s1) (rm := s2) (f := q2) hjl)
     have Hln := Lib.hid (longN_succ g hjl)
     have hbd := HLB.out s3 j (by omega)
     have hbl := tmdsTo_len g s1 s2 q2 s3 j
     have HTx := Lib.hid (fun W (h : Below w.heap.size w W) => HTK.out s3[j] W h)
     have htok := HTO.out s3[j]
     have Ha4 := Lib.hid ha4
     rw [Hln.out] at Hts
     rw [ha4]
     clear ha4
     generalize s3[j] = y at *
     generalize hln : longN g (s3.take j) = ln at *
     generalize hac : acc ++ tmdsTo g s1 s2 q2 s3 j = ac at *
     have Hac := Lib.hid hac
     have hacl : ac.length ≤ 1000 * k + j := by rw [← hac, List.length_append]; omega
     clear hln hac hbl
     unfold talkV at HTx
     generalize talkOr g y = t at *
     obtain ⟨t1, t2, t3, t4, t5, t6, t7, t8⟩ := t
     obtain ⟨-, -, -, -, -, hto1, hto2⟩ := htok
     unfold Tlk.agg at HTx
     simp only at hto1 hto2 HTx Hts Hln
     have hw : IntKind.i64.wrap (q2 + ln + t4) = q2 + ln + t4 := IntWalk.i64_in _ (by have := Hs2.out; have := Hs3.out; omega)
     have hX_l := hX.lt; have hX_0 := hX.cell 0; have hX_1 := hX.cell 1; have hX_2 := hX.cell 2; have hX_3 := hX.cell 3; have hX_4 := hX.cell 4; simp at hX_0 hX_1 hX_2 hX_3 hX_4
     go_wp2_with fail
     clear hX_l hX_0 hX_1 hX_2 hX_3 hX_4
     refine (HTx.out _ hb).mono ?_
     rintro e w5 ⟨rfl, hb5⟩
     go_upto_region 11 with (fail)
     have hE5 := (hE.below hb5).alloc (.cells #[.string t1, .slice t5 t2.length t6, .slice t7 t3.length t8, .int .i64 t4] 101)
     have hX5 := (hX.below hb5).alloc (.cells #[.string t1, .slice t5 t2.length t6, .slice t7 t3.length t8, .int .i64 t4] 101)
     have hown5 := (hown.below hb5).alloc (.cells #[.string t1, .slice t5 t2.length t6, .slice t7 t3.length t8, .int .i64 t4] 101)
     have hb6 := (below_next hb hb5).alloc (below_next hb hb5).size (.cells #[.string t1, .slice t5 t2.length t6, .slice t7 t3.length t8, .int .i64 t4] 101)
     have hT5 := Box.new w5 101 #[.string t1, .slice t5 t2.length t6, .slice t7 t3.length t8, .int .i64 t4]
     have hvt : v2.ownBlock ≠ some w5.heap.size := fun e => by have := ((hown.below hb5).lt _ e).2; omega
     have hz5 : w.heap.size + 1 ≤ (w5.alloc (.cells #[.string t1, .slice t5 t2.length t6, .slice t7 t3.length t8, .int .i64 t4] 101)).heap.size := by have := hb5.size; simp; omega
     clear hE hX hown hb hb5 HTx u0
     generalize w5.alloc (.cells #[.string t1, .slice t5 t2.length t6, .slice t7 t3.length t8, .int .i64 t4] 101) = w6 at *
     generalize w5.heap.size = n5 at *
     have hown6 := hown5.alloc (.cells #[.string y, .string s1, .string s2, .int .i64 (q2 + ln), .int .i64 (q2 + ln + t4)] 86)
     have hbo := Box.new w6 86 #[.string y, .string s1, .string s2, .int .i64 (q2 + ln), .int .i64 (q2 + ln + t4)]
     have hb7 := hb6.alloc hb6.size (.cells #[.string y, .string s1, .string s2, .int .i64 (q2 + ln), .int .i64 (q2 + ln + t4)] 86)
     have hE6 := hE5.alloc (.cells #[.string y, .string s1, .string s2, .int .i64 (q2 + ln), .int .i64 (q2 + ln + t4)] 86)
     have hX6 := hX5.alloc (.cells #[.string y, .string s1, .string s2, .int .i64 (q2 + ln), .int .i64 (q2 + ln + t4)] 86)
     have hT6 := hT5.alloc (.cells #[.string y, .string s1, .string s2, .int .i64 (q2 + ln), .int .i64 (q2 + ln + t4)] 86)
     have hol := hown6.lt
     have hEl := hE5.lt
     have hTl := hT5.lt
     have hXl := hX5.lt
     have hbz := hb6.size
     have hE5_l := hE5.lt; have hE5_0 := hE5.cell 0; have hE5_1 := hE5.cell 1; have hE5_2 := hE5.cell 2; simp at hE5_0 hE5_1 hE5_2
     have hT5_l := hT5.lt; have hT5_0 := hT5.cell 0; have hT5_1 := hT5.cell 1; have hT5_2 := hT5.cell 2; have hT5_3 := hT5.cell 3; simp at hT5_0 hT5_1 hT5_2 hT5_3
     go_upto_region 12 with (at_builtin; refine wpList_append_lie (α := Tmd) rfl _ _ 77 rfl 86 64 (.agg #[.string ⟨#[]⟩, .string ⟨#[]⟩, .string ⟨#[]⟩, .int .i64 0, .int .i64 0]) Tryz.underlying77 infoTmd rfl _ ac rfl hown6 (y, s1, s2, q2 + ln, q2 + ln + t4) _ rfl hbo (by omega) (by omega) (by simp; omega) ?_; intro g9 cap9 w9 hown9 hg9 hat9)
     clear hE5_l hE5_0 hE5_1 hE5_2
     clear hT5_l hT5_0 hT5_1 hT5_2 hT5_3
     have hb9 := hb7.grown hg9 (by have := hb7.size; omega) (fun j hj => by have := (hol j hj).1; omega)
     have hE9 := hE6.grown hg9 (fun e => hvn e.symm)
     have hT9 := hT6.grown hg9 (fun e => hvt e.symm)
     have hX9 := hX6.grown hg9 (fun e => by have := (hol _ e.symm).1; omega)
     have hz9 := ((Kp.refl (fun j => v2.ownBlock = some j) _).grown hg9 (fun j hj => .inl hj)).size
     have hz10 : w.heap.size + 1 ≤ w9.heap.size := by simp at hz9; omega
     have hvn9 : (Value.slice (some ⟨g9, 0, none⟩) (ac.length + 1) cap9).ownBlock ≠ some n2 := fun e => by
      obtain rfl : g9 = n2 := Option.some.inj e
      rcases hat9 with h | h
      ·
       exact hvn h
      ·
       simp at h; omega
     have hown10 : Own (w.heap.size + 1) 86 w9 (.slice (some ⟨g9, 0, none⟩) (ac.length + 1) cap9) (acc ++ tmdsTo g s1 s2 q2 s3 (j + 1)) := by rw [Hts.out, ← List.append_assoc, Hac.out, ← Int.add_assoc]; exact hown9
     clear hE5 hX5 hown5 hb6 hT5 hown6 hbo hb7 hE6 hX6 hT6 hol hEl hTl hXl hbz hg9 hat9 hown9 hvn hvt hz9 hz5
     have hT9_l := hT9.lt; have hT9_0 := hT9.cell 0; have hT9_1 := hT9.cell 1; have hT9_2 := hT9.cell 2; have hT9_3 := hT9.cell 3; simp at hT9_0 hT9_1 hT9_2 hT9_3
     go_wp2_with fail
     rw [← Ha4.out]
     go_roundg (s3.length - (j + 1))
     case measure => have := hgj.out; omega
     case rel => exact ⟨j + 1, _, rfl, by rw [Hln.out, Int.add_assoc], by go_num, by omega, rfl, hown10, hvn9, hE9, hX9, hz10, hb9⟩
    ·
     obtain rfl : j = s3.length := by omega
     rw [← Hsu.out] at hown
     go_wp2_with fail
     rw [← Ha.out]
     go_roundg (p.length - (k + 1))
     case measure => have := hgk.out; omega
     case rel => exact ⟨k + 1, _, rfl, by go_num, by omega, rfl, hown, hX, hb⟩
  ·
   obtain rfl : k = p.length := by omega
   have hll := HL.out p.length (Nat.le_refl _)
   rw [← HR.out] at hown hll
   clear HR HL
   go_wp2_with fail
   refine (HSRT.out _ v R _ hown (by omega)).mono ?_
   rintro e w9 ⟨rfl, hown9, hk9⟩
   have hb9 := belowKp hb hk9 (fun j hj => by have := (hown.lt j hj).1; omega) hb.size
   go_wp2_with fail
   go_ret
   exact ⟨_, rfl, hown9.mono (by omega), hb9⟩
end Go.Proofs.YthnbcdgbpofnjaaGreatDoor

/-! Missing, Times and Busy, by the program; Busy by the reference. -/
namespace Go.Proofs.YthnbcdgbpofnjaaGreatDoor
open Go.RowKit Go.Sort
set_option linter.unusedVariables false
set_option linter.unusedSimpArgs false

/-- What a list of a right programme comes with. -/
def ListRes {α : Type} [Cel α] (T : TypeId) (g : Grd) (p : List Ses) (l : List α) (w : World) (e : Ending) (w' : World) : Prop :=
 Below w.heap.size w w' ∧ ((bothF g p ≠ 0 ∧ e = .returned (.tuple #[.slice none 0 0, .int .i64 (bothF g p)])) ∨ (bothF g p = 0 ∧ ∃ v, e = .returned (.tuple #[v, .int .i64 0]) ∧ Own w.heap.size T w' v l))
theorem both_nd {g : Grd} {p : List Ses} (h : bothF g p = 0) : GNd g := gnd_of (both_ok h).1
theorem both_form {g : Grd} {p : List Ses} (h : bothF g p = 0) : ∀ s ∈ p, (slotOf g s.slot).isSome = true ∧ ∀ x ∈ s.papers, (talkOf g x).isSome = true := form_ok (form_of (both_ok h).2)
set_option maxRecDepth 100000 in
set_option maxHeartbeats 4000000 in
theorem missingP_any (g : Grd) (p : List Ses) (pa : Option Addr) (pc : Nat) (w : World) (hg : GRd w g) (hz : GSm g) (hp : PRg w pa p) (hpl : p.length ≤ 1000) (hpo : ∀ s ∈ p, SesOk s) (hpc : p.length ≤ pc) :
  Calls Tryz.prog 34 #[g.agg, .slice pa p.length pc] w (ListRes 9 g p (missL g p) w) := by
 have HC := Lib.hid (fun W (h : Below w.heap.size w W) => checkedP_any g p pa pc W (hg.below h) hz (hp.below h) (by omega) hpo hpc)
 have HK := Lib.hid (fun (h0 : bothF g p = 0) fb br bs bt bb W (hF : FieldAt g fb br bs bt bb W) (h : Below w.heap.size w W) => missing_any g fb br bs bt bb p pa pc W hF (hg.below h) hz (hp.below h) (by omega) hpo)
 unfold CheckedRes at HC
 unfold ListRes
 generalize bothF g p = R at *
 clear hg hz hp hpo
 rw [Grd.agg_eq] at HC ⊢
 have hX := Box.new w 32 #[.slice g.ra g.rooms.length g.rc, .slice g.sa g.slots.length g.sc, .slice g.ta g.talks.length g.tc, .slice g.wa g.wishes.length g.wc, .slice g.ba g.bans.length g.bc]
 have hb0 : Below w.heap.size w (w.alloc (.cells #[.slice g.ra g.rooms.length g.rc, .slice g.sa g.slots.length g.sc, .slice g.ta g.talks.length g.tc, .slice g.wa g.wishes.length g.wc, .slice g.ba g.bans.length g.bc] 32)) := (Below.refl _ _).alloc (Nat.le_refl _) _
 go_enter Tryz.func34, Tryz.ntmps34
 go_upto_region 1 with (fail)
 generalize w.alloc (.cells #[.slice g.ra g.rooms.length g.rc, .slice g.sa g.slots.length g.sc, .slice g.ta g.talks.length g.tc, .slice g.wa g.wishes.length g.wc, .slice g.ba g.bans.length g.bc] 32) = w1 at *
 have hX_l := hX.lt; have hX_0 := hX.cell 0; have hX_1 := hX.cell 1; have hX_2 := hX.cell 2; have hX_3 := hX.cell 3; have hX_4 := hX.cell 4; simp at hX_0 hX_1 hX_2 hX_3 hX_4
 go_wp2_with fail
 clear hX_l hX_0 hX_1 hX_2 hX_3 hX_4
 refine (HC.out _ hb0).mono ?_
 rintro e w2 ⟨hb1, h⟩
 replace hb1 := below_next hb0 hb1
 clear HC hb0 hX
 rcases h with ⟨h0, rfl⟩ | ⟨rfl, fb, br, bs, bt, bb, rfl, hF, -⟩
 ·
  have hq : (R != 0) = true := by simpa using h0
  have H0 := Lib.hid h0
  clear h0
  go_wp2_with fail
  refine bodyPost_ret (v := .tuple #[.slice none 0 0, .int .i64 R]) (by simp only [results, Tryz.results34]; go_simp) rfl ?_
  exact ⟨hb1, .inl ⟨H0.out, rfl⟩⟩
 ·
  go_wp2_with fail
  refine (HK.out trivial _ _ _ _ _ _ hF hb1).mono ?_
  rintro e w3 ⟨v, rfl, hown, hb3⟩
  have hb4 := below_next hb1 hb3
  have hown4 := hown.mono hb1.size
  clear hF hb3 hown
  go_wp2_with fail
  refine bodyPost_ret (v := .tuple #[v, .int .i64 0]) (by simp only [results, Tryz.results34]; go_simp) rfl ?_
  exact ⟨hb4, v, rfl, hown4⟩
set_option maxRecDepth 100000 in
set_option maxHeartbeats 4000000 in
theorem timesF_any (g : Grd) (p : List Ses) (pa : Option Addr) (pc : Nat) (w : World) (hg : GRd w g) (hz : GSm g) (hp : PRg w pa p) (hpl : p.length ≤ 1000) (hpo : ∀ s ∈ p, SesOk s) (hpc : p.length ≤ pc) :
  Calls Tryz.prog 35 #[g.agg, .slice pa p.length pc] w (ListRes 86 g p (sortTmd (timesL g p)) w) := by
 have HC := Lib.hid (fun W (h : Below w.heap.size w W) => checkedP_any g p pa pc W (hg.below h) hz (hp.below h) (by omega) hpo hpc)
 have HK := Lib.hid (fun (h0 : bothF g p = 0) fb br bs bt bb W (hF : FieldAt g fb br bs bt bb W) (h : Below w.heap.size w W) => timesP_any g fb br bs bt bb p pa pc W hF (hg.below h) hz (both_nd h0) (hp.below h) hpl hpo (both_form h0))
 unfold CheckedRes at HC
 unfold ListRes
 generalize bothF g p = R at *
 clear hg hz hp hpo
 rw [Grd.agg_eq] at HC ⊢
 have hX := Box.new w 32 #[.slice g.ra g.rooms.length g.rc, .slice g.sa g.slots.length g.sc, .slice g.ta g.talks.length g.tc, .slice g.wa g.wishes.length g.wc, .slice g.ba g.bans.length g.bc]
 have hb0 : Below w.heap.size w (w.alloc (.cells #[.slice g.ra g.rooms.length g.rc, .slice g.sa g.slots.length g.sc, .slice g.ta g.talks.length g.tc, .slice g.wa g.wishes.length g.wc, .slice g.ba g.bans.length g.bc] 32)) := (Below.refl _ _).alloc (Nat.le_refl _) _
 go_enter Tryz.func35, Tryz.ntmps35
 go_upto_region 1 with (fail)
 generalize w.alloc (.cells #[.slice g.ra g.rooms.length g.rc, .slice g.sa g.slots.length g.sc, .slice g.ta g.talks.length g.tc, .slice g.wa g.wishes.length g.wc, .slice g.ba g.bans.length g.bc] 32) = w1 at *
 have hX_l := hX.lt; have hX_0 := hX.cell 0; have hX_1 := hX.cell 1; have hX_2 := hX.cell 2; have hX_3 := hX.cell 3; have hX_4 := hX.cell 4; simp at hX_0 hX_1 hX_2 hX_3 hX_4
 go_wp2_with fail
 clear hX_l hX_0 hX_1 hX_2 hX_3 hX_4
 refine (HC.out _ hb0).mono ?_
 rintro e w2 ⟨hb1, h⟩
 replace hb1 := below_next hb0 hb1
 clear HC hb0 hX
 rcases h with ⟨h0, rfl⟩ | ⟨rfl, fb, br, bs, bt, bb, rfl, hF, -⟩
 ·
  have hq : (R != 0) = true := by simpa using h0
  have H0 := Lib.hid h0
  clear h0
  go_wp2_with fail
  refine bodyPost_ret (v := .tuple #[.slice none 0 0, .int .i64 R]) (by simp only [results, Tryz.results35]; go_simp) rfl ?_
  exact ⟨hb1, .inl ⟨H0.out, rfl⟩⟩
 ·
  go_wp2_with fail
  refine (HK.out trivial _ _ _ _ _ _ hF hb1).mono ?_
  rintro e w3 ⟨v, rfl, hown, hb3⟩
  have hb4 := below_next hb1 hb3
  have hown4 := hown.mono hb1.size
  clear hF hb3 hown
  go_wp2_with fail
  refine bodyPost_ret (v := .tuple #[v, .int .i64 0]) (by simp only [results, Tryz.results35]; go_simp) rfl ?_
  exact ⟨hb4, v, rfl, hown4⟩

theorem sortTmd_perm (l : List Tmd) : (sortTmd l).Perm l := by
 have h := (pdq_sorts (ltOf cmpTmd) swoTmd l.toArray 0 l.length (Lib.bitLen l.length) true true (Nat.zero_le _) (by rw [List.size_toArray]; exact Nat.le_refl _) (Or.inl rfl)).1
 have h2 := h.2.2
 rw [Array.extract_eq_self_of_le (by rw [h.1, List.size_toArray]; exact Nat.le_refl _), Array.extract_eq_self_of_le (by rw [List.size_toArray]; exact Nat.le_refl _)] at h2
 exact h2
theorem tmdsTo_mem {g : Grd} {sl rm : ByteArray} {f : Int} {ps : List ByteArray} {t : Tmd} : ∀ j, t ∈ tmdsTo g sl rm f ps j → t.1 ∈ ps
 | 0, h => by cases h
 | j + 1, h => by
  rcases List.mem_append.1 h with h | h
  ·
   exact tmdsTo_mem j h
  ·
   split at h
   ·
    cases h
   ·
    next x hx =>
    rw [List.mem_singleton.1 h]
    exact List.mem_of_getElem? hx
theorem timesTo_mem {g : Grd} {p : List Ses} {t : Tmd} : ∀ k, t ∈ timesTo g p k → ∃ s ∈ p, t.1 ∈ s.papers
 | 0, h => by cases h
 | k + 1, h => by
  rcases List.mem_append.1 h with h | h
  ·
   exact timesTo_mem k h
  ·
   split at h
   ·
    cases h
   ·
    next s hs => exact ⟨s, List.mem_of_getElem? hs, tmdsTo_mem _ h⟩
/-- When a person speaks. -/
noncomputable def busyL (g : Grd) (p : List Ses) (who : ByteArray) : List Tmd := (sortTmd (timesL g p)).filter (fun t => !!inB (talkSp g t.1) who)
set_option maxRecDepth 100000 in
set_option maxHeartbeats 4000000 in
theorem busyClo_any (g : Grd) (fb br bs bt bb qf qw : Nat) (t : Tmd) (who : ByteArray) (w : World) (hF : FieldAt g fb br bs bt bb w) (hg : GRd w g) (hz : GSm g) (hn : GNd g) (ht : (talkOf g t.1).isSome = true) (hcf : w.cell? ⟨qf, 0, none⟩ = some (.pointer (some ⟨fb, 0, none⟩))) (hcw : w.cell? ⟨qw, 0, none⟩ = some (.string who)) :
  Calls Tryz.prog 95 #[.agg #[.string t.1, .string t.2.1, .string t.2.2.1, .int .i64 t.2.2.2.1, .int .i64 t.2.2.2.2], .pointer (some ⟨qf, 0, none⟩), .pointer (some ⟨qw, 0, none⟩)] w (Gives (.bool (!inB (talkSp g t.1) who)) w) := by
 have HTK := Lib.hid (fun W (h : Below w.heap.size w W) => talkP_any g fb br bs bt bb t.1 W (hF.below h) (hg.below h) hz hn.talks ht)
 have HRD := Lib.hid (fun W (h : Below w.heap.size w W) => (talkOr_rd (hg.below h) t.1).1)
 have hok := (talkOr_ok hz t.1).2.1
 rw [talkSp_or]
 have HCN := Lib.hid (fun W a c (h : SA W a (talkOr g t.1).speakers) => contains_any (talkOr g t.1).speakers a c who W h (by omega))
 obtain ⟨x1, x2, x3, x4, x5⟩ := t
 simp only at HTK HRD hok HCN ⊢
 have HB : Hid ((talkOr g x1).speakers.any (fun y => decide (y = who)) = inB (talkOr g x1).speakers who) := rfl
 generalize talkOr g x1 = t at *
 obtain ⟨t1, t2, t3, t4, t5, t6, t7, t8⟩ := t
 unfold Tlk.agg at HTK
 simp only at HTK HRD hok HCN HB ⊢
 have hX := Box.new w 86 #[.string x1, .string x2, .string x3, .int .i64 x4, .int .i64 x5]
 have hb0 : Below w.heap.size w (w.alloc (.cells #[.string x1, .string x2, .string x3, .int .i64 x4, .int .i64 x5] 86)) := (Below.refl _ _).alloc (Nat.le_refl _) _
 have hf1 := cell_later hb0 hcf
 have hw1 := cell_later hb0 hcw
 have hlf := cell_lt hcf
 have hlw := cell_lt hcw
 clear hF hg hz hn ht hcf hcw
 go_enter Tryz.func95, Tryz.ntmps95
 go_upto_region 1 with (fail)
 generalize w.alloc (.cells #[.string x1, .string x2, .string x3, .int .i64 x4, .int .i64 x5] 86) = w1 at *
 have hx0 := hX.cell 0
 simp at hx0
 refine wp_region_held_drew (S := (fun wx => wx.cell? ⟨w.heap.size, 0, none⟩ = some (.string x1) ∧ wx.cell? ⟨qf, 0, none⟩ = some (.pointer (some ⟨fb, 0, none⟩)) ∧ wx.cell? ⟨qw, 0, none⟩ = some (.string who) ∧ Below w1.heap.size w1 wx)) (by kernel_rfl) ?hS (fun hHeld => ?_)
 case hS => exact ⟨hx0, hf1, hw1, (Below.refl _ _).drew⟩
 refine rtake (i := 0) (d := (some 5)) (v := ?_) rfl (by kernel_rfl) (by kernel_rfl) (by kernel_rfl) (by kernel_rfl) (fun _ _ _ h => h) (by kernel_rfl) (by assumption) ?_ ?_
 rotate_left 1
 ·
  (intro wI hSI; (try dsimp only at hSI); go_simp; (try with_reducible rfl))
 simp only [Act.put, lsetA, lsetZ, lsetS]
 refine rtake (i := 1) (d := (some 6)) (v := ?_) rfl (by kernel_rfl) (by kernel_rfl) (by kernel_rfl) (by kernel_rfl) (fun _ _ _ h => h) (by kernel_rfl) (by assumption) ?_ ?_
 rotate_left 1
 ·
  (intro wI hSI; (try dsimp only at hSI); go_simp; (try with_reducible rfl))
 simp only [Act.put, lsetA, lsetZ, lsetS]
 refine rtake (i := 2) (d := (some 7)) (v := ?_) rfl (by kernel_rfl) (by kernel_rfl) (by kernel_rfl) (by kernel_rfl) (fun _ _ _ h => h) (by kernel_rfl) (by assumption) ?_ ?_
 rotate_left 1
 ·
  (intro wI hSI; (try dsimp only at hSI); go_simp; (try with_reducible rfl))
 simp only [Act.put, lsetA, lsetZ, lsetS]
 refine rtake (i := 5) (d := (some 10)) (v := ?_) rfl (by kernel_rfl) (by kernel_rfl) (by kernel_rfl) (by kernel_rfl) (fun _ _ _ h => h) (by kernel_rfl) (by assumption) ?_ ?_
 rotate_left 1
 ·
  (intro wI hSI; (try dsimp only at hSI); go_simp; (try with_reducible rfl))
 simp only [Act.put, lsetA, lsetZ, lsetS]
 refine rcall (i := 3) (d := (some 8)) (by kernel_rfl) rfl (by kernel_rfl) (fun K hK => ?_)
 go_simp
 go_at_call 96; refine (HTK.out _ (below_next hb0 hHeld.2.2.2)).mono ?_; rintro e w3 ⟨rfl, hb3⟩
 refine hK.out _ _ ?hS (fun hHeld => ?_)
 case hS => exact ⟨cell_later hb3 hHeld.1, cell_later hb3 hHeld.2.1, cell_later hb3 hHeld.2.2.1, below_next hHeld.2.2.2 hb3⟩
 clear hK K
 simp only [Act.put, lsetA, lsetZ, lsetS]
 have hfd : ∀ W, (Instr.field 101 (.agg #[.string t1, .slice t5 t2.length t6, .slice t7 t3.length t8, .int .i64 t4]) 1).run Tryz.prog W = .ok (.slice t5 t2.length t6) W := fun W => tlk_field1 _ _ _ _ W
 refine rtake (i := 4) (d := (some 9)) (v := ?_) rfl (by kernel_rfl) (by kernel_rfl) (by kernel_rfl) (by kernel_rfl) (fun _ _ _ h => h) (by kernel_rfl) (by assumption) ?_ ?_
 rotate_left 1
 ·
  (intro wI hSI; (try dsimp only at hSI); go_simp; (try with_reducible rfl))
 simp only [Act.put, lsetA, lsetZ, lsetS]
 refine rcall (i := 6) (d := (some 11)) (by kernel_rfl) rfl (by kernel_rfl) (fun K hK => ?_)
 go_simp
 go_at_call 45; refine (HCN.out _ _ _ (HRD.out _ (below_next hb0 hHeld.2.2.2))).mono ?_; rintro e w4 ⟨rfl, rfl⟩
 refine hK.out _ _ ?hS (fun hHeld => ?_)
 case hS => exact hHeld
 clear hK K
 simp only [Act.put, lsetA, lsetZ, lsetS]
 refine rtake (i := 7) (d := (some 12)) (v := ?_) rfl (by kernel_rfl) (by kernel_rfl) (by kernel_rfl) (by kernel_rfl) (fun _ _ _ h => h) (by kernel_rfl) (by assumption) ?_ ?_
 rotate_left 1
 ·
  (intro wI hSI; (try dsimp only at hSI); go_simp; (try with_reducible rfl))
 simp only [Act.put, lsetA, lsetZ, lsetS]
 refine rtake (i := 8) (d := (some 4)) (v := ?_) rfl (by kernel_rfl) (by kernel_rfl) (by kernel_rfl) (by kernel_rfl) (fun _ _ _ h => h) (by kernel_rfl) (by assumption) ?_ ?_
 rotate_left 1
 ·
  (intro wI hSI; (try dsimp only at hSI); go_simp; (try with_reducible rfl))
 simp only [Act.put, lsetA, lsetZ, lsetS]
 refine wpAnyH_done (by kernel_rfl) ?_ _
 have hbF := below_next hb0 hHeld.2.2.2
 clear hHeld
 go_wp2_with fail
 go_ret
 exact ⟨by rw [← HB.out] <;> rfl, hbF⟩
set_option maxRecDepth 100000 in
set_option maxHeartbeats 4000000 in
theorem busyOfClo_any (g : Grd) (qg qw : Nat) (t : Tmd) (who : ByteArray) (w : World) (hg : GRd w g) (hz : GSm g) (hG : Box w qg 32 #[.slice g.ra g.rooms.length g.rc, .slice g.sa g.slots.length g.sc, .slice g.ta g.talks.length g.tc, .slice g.wa g.wishes.length g.wc, .slice g.ba g.bans.length g.bc]) (hcw : w.cell? ⟨qw, 0, none⟩ = some (.string who)) :
  Calls Tryz.prog 103 #[.agg #[.string t.1, .string t.2.1, .string t.2.2.1, .int .i64 t.2.2.2.1, .int .i64 t.2.2.2.2], .pointer (some ⟨qg, 0, none⟩), .pointer (some ⟨qw, 0, none⟩)] w (Gives (.bool (!inB (talkSp g t.1) who)) w) := by
 have HTK := Lib.hid (fun W (h : Below w.heap.size w W) => talkOf_any g t.1 W (hg.below h) (by have := hz.talks; omega))
 have HRD := Lib.hid (fun W (h : Below w.heap.size w W) => (talkOr_rd (hg.below h) t.1).1)
 have hok := (talkOr_ok hz t.1).2.1
 rw [talkSp_or]
 have HCN := Lib.hid (fun W a c (h : SA W a (talkOr g t.1).speakers) => contains_any (talkOr g t.1).speakers a c who W h (by omega))
 obtain ⟨x1, x2, x3, x4, x5⟩ := t
 rw [Grd.agg_eq] at HTK
 unfold talkV at HTK
 simp only at HTK HRD hok HCN ⊢
 have HB : Hid ((talkOr g x1).speakers.any (fun y => decide (y = who)) = inB (talkOr g x1).speakers who) := rfl
 generalize talkOr g x1 = t at *
 obtain ⟨t1, t2, t3, t4, t5, t6, t7, t8⟩ := t
 unfold Tlk.agg at HTK
 simp only at HTK HRD hok HCN HB ⊢
 have hX := Box.new w 86 #[.string x1, .string x2, .string x3, .int .i64 x4, .int .i64 x5]
 have hb0 : Below w.heap.size w (w.alloc (.cells #[.string x1, .string x2, .string x3, .int .i64 x4, .int .i64 x5] 86)) := (Below.refl _ _).alloc (Nat.le_refl _) _
 have hG1 := hG.alloc (.cells #[.string x1, .string x2, .string x3, .int .i64 x4, .int .i64 x5] 86)
 have hw1 := cell_later hb0 hcw
 have hlw := cell_lt hcw
 clear hg hz hcw hG
 go_enter Tryz.func103, Tryz.ntmps103
 go_upto_region 1 with (fail)
 generalize w.alloc (.cells #[.string x1, .string x2, .string x3, .int .i64 x4, .int .i64 x5] 86) = w1 at *
 have hX_l := hX.lt; have hX_0 := hX.cell 0; have hX_1 := hX.cell 1; have hX_2 := hX.cell 2; have hX_3 := hX.cell 3; have hX_4 := hX.cell 4; simp at hX_0 hX_1 hX_2 hX_3 hX_4
 have hG1_l := hG1.lt; have hG1_0 := hG1.cell 0; have hG1_1 := hG1.cell 1; have hG1_2 := hG1.cell 2; have hG1_3 := hG1.cell 3; have hG1_4 := hG1.cell 4; simp at hG1_0 hG1_1 hG1_2 hG1_3 hG1_4
 go_wp2_with fail
 clear hX_l hX_0 hX_1 hX_2 hX_3 hX_4
 clear hG1_l hG1_0 hG1_1 hG1_2 hG1_3 hG1_4
 refine (HTK.out _ hb0).mono ?_
 rintro e w2 ⟨rfl, hb2⟩
 go_upto_region 2 with (fail)
 have hb3 := (below_next hb0 hb2).alloc (below_next hb0 hb2).size (.cells #[.string t1, .slice t5 t2.length t6, .slice t7 t3.length t8, .int .i64 t4] 101)
 have hw3 := cell_later ((Below.refl w2.heap.size w2).alloc (Nat.le_refl _) (.cells #[.string t1, .slice t5 t2.length t6, .slice t7 t3.length t8, .int .i64 t4] 101)) (cell_later hb2 hw1)
 have hT := Box.new w2 101 #[.string t1, .slice t5 t2.length t6, .slice t7 t3.length t8, .int .i64 t4]
 clear hX hG1 hb0 hb2 hw1
 generalize w2.alloc (.cells #[.string t1, .slice t5 t2.length t6, .slice t7 t3.length t8, .int .i64 t4] 101) = w3 at *
 generalize w2.heap.size = n2 at *
 have hrd := HRD.out _ hb3
 have hT_l := hT.lt; have hT_0 := hT.cell 0; have hT_1 := hT.cell 1; have hT_2 := hT.cell 2; have hT_3 := hT.cell 3; simp at hT_0 hT_1 hT_2 hT_3
 go_wp2_with fail
 refine (HCN.out _ _ _ hrd).mono ?_
 rintro e w4 ⟨rfl, rfl⟩
 go_wp2_with fail
 go_ret
 exact ⟨by rw [← HB.out] <;> rfl, hb3⟩
/-- What Busy of the program gives. -/
def BusyRes (g : Grd) (p : List Ses) (who : ByteArray) (w : World) (e : Ending) (w' : World) : Prop :=
 Below w.heap.size w w' ∧ ((bothF g p ≠ 0 ∧ e = .returned (.tuple #[.slice none 0 0, .int .i64 (bothF g p)])) ∨ (bothF g p = 0 ∧ keyB who = false ∧ e = .returned (.tuple #[.slice none 0 0, .int .i64 5])) ∨ (bothF g p = 0 ∧ keyB who = true ∧ ∃ v, e = .returned (.tuple #[v, .int .i64 0]) ∧ Own w.heap.size 86 w' v (busyL g p who)))
set_option maxRecDepth 100000 in
set_option maxHeartbeats 8000000 in
theorem busyP_any (g : Grd) (p : List Ses) (pa : Option Addr) (pc : Nat) (who : ByteArray) (w : World) (hg : GRd w g) (hz : GSm g) (hp : PRg w pa p) (hpl : p.length ≤ 1000) (hpo : ∀ s ∈ p, SesOk s) (hpc : p.length ≤ pc) (hws : who.size ≤ 1000) :
  Calls Tryz.prog 36 #[g.agg, .slice pa p.length pc, .string who] w (BusyRes g p who w) := by
 have HC := Lib.hid (fun W (h : Below w.heap.size w W) => checkedP_any g p pa pc W (hg.below h) hz (hp.below h) (by omega) hpo hpc)
 have HTM := Lib.hid (fun (h0 : bothF g p = 0) fb br bs bt bb W (hF : FieldAt g fb br bs bt bb W) (h : Below w.heap.size w W) => timesP_any g fb br bs bt bb p pa pc W hF (hg.below h) hz (both_nd h0) (hp.below h) hpl hpo (both_form h0))
 have HIK := Lib.hid (fun W => isKey_gives who W (by omega))
 have HCL := Lib.hid (fun (h0 : bothF g p = 0) fb br bs bt bb qf qw t W (hF : FieldAt g fb br bs bt bb W) (h : Below w.heap.size w W) (ht : t ∈ sortTmd (timesL g p)) hcf hcw => busyClo_any g fb br bs bt bb qf qw t who W hF (hg.below h) hz (both_nd h0) (by
  obtain ⟨s, hs, h1⟩ := timesTo_mem _ ((sortTmd_perm _).mem_iff.1 ht)
  exact (both_form h0 s hs).2 _ h1) hcf hcw)
 have hll : (sortTmd (timesL g p)).length ≤ 1000000 := by
  rw [sortTmd_len]
  have := timesTo_len (g := g) (fun s hs => (hpo s hs).2.2.1) p.length (Nat.le_refl _)
  unfold timesL
  omega
 have HBL : Hid (busyL g p who = (sortTmd (timesL g p)).filter (fun t => !!inB (talkSp g t.1) who)) := rfl
 unfold CheckedRes at HC
 unfold BusyRes
 generalize bothF g p = R at *
 generalize busyL g p who = BL at *
 generalize sortTmd (timesL g p) = T at *
 clear hg hz hp hpo
 rw [Grd.agg_eq] at HC ⊢
 have hX := (Box.new w 32 #[.slice g.ra g.rooms.length g.rc, .slice g.sa g.slots.length g.sc, .slice g.ta g.talks.length g.tc, .slice g.wa g.wishes.length g.wc, .slice g.ba g.bans.length g.bc]).alloc (.cells #[.string who] 9)
 have hW := Box.newAt (w.alloc (.cells #[.slice g.ra g.rooms.length g.rc, .slice g.sa g.slots.length g.sc, .slice g.ta g.talks.length g.tc, .slice g.wa g.wishes.length g.wc, .slice g.ba g.bans.length g.bc] 32)) (w.heap.size + 1) 9 #[.string who] (by simp)
 have hb0 : Below w.heap.size w ((w.alloc (.cells #[.slice g.ra g.rooms.length g.rc, .slice g.sa g.slots.length g.sc, .slice g.ta g.talks.length g.tc, .slice g.wa g.wishes.length g.wc, .slice g.ba g.bans.length g.bc] 32)).alloc (.cells #[.string who] 9)) := ((Below.refl _ _).alloc (Nat.le_refl _) _).alloc (by simp) _
 go_enter Tryz.func36, Tryz.ntmps36
 go_upto_region 1 with (fail)
 generalize (w.alloc (.cells #[.slice g.ra g.rooms.length g.rc, .slice g.sa g.slots.length g.sc, .slice g.ta g.talks.length g.tc, .slice g.wa g.wishes.length g.wc, .slice g.ba g.bans.length g.bc] 32)).alloc (.cells #[.string who] 9) = w1 at *
 have hX_l := hX.lt; have hX_0 := hX.cell 0; have hX_1 := hX.cell 1; have hX_2 := hX.cell 2; have hX_3 := hX.cell 3; have hX_4 := hX.cell 4; simp at hX_0 hX_1 hX_2 hX_3 hX_4
 go_wp2_with fail
 clear hX_l hX_0 hX_1 hX_2 hX_3 hX_4
 refine (HC.out _ hb0).mono ?_
 rintro e w2 ⟨hb1, h⟩
 have hW1 := hW.below hb1
 replace hb1 := below_next hb0 hb1
 clear HC hb0 hX hW
 rcases h with ⟨h0, rfl⟩ | ⟨rfl, fb, br, bs, bt, bb, rfl, hF, -⟩
 ·
  have hq : (R != 0) = true := by simpa using h0
  have H0 := Lib.hid h0
  clear h0
  go_wp2_with fail
  refine bodyPost_ret (v := .tuple #[.slice none 0 0, .int .i64 R]) (by simp only [results, Tryz.results36]; go_simp) rfl ?_
  exact ⟨hb1.alloc hb1.size _, .inl ⟨H0.out, rfl⟩⟩
 ·
  have HTM2 := Lib.hid (HTM.out rfl)
  have HCL2 := Lib.hid (HCL.out rfl)
  clear HTM HCL
  go_upto_region 2 with (fail)
  have hW2 := hW1.alloc (.cells #[.pointer (some ⟨fb, 0, none⟩)] 112)
  have hF2 := hF.below ((Below.refl _ _).alloc (Nat.le_refl _) (.cells #[.pointer (some ⟨fb, 0, none⟩)] 112))
  have hQ := Box.new w2 112 #[.pointer (some ⟨fb, 0, none⟩)]
  have hb2 := hb1.alloc hb1.size (.cells #[.pointer (some ⟨fb, 0, none⟩)] 112)
  clear hW1 hF hb1
  generalize w2.alloc (.cells #[.pointer (some ⟨fb, 0, none⟩)] 112) = w3 at *
  generalize w2.heap.size = nf at *
  have hW2_l := hW2.lt; have hW2_0 := hW2.cell 0; simp at hW2_0
  go_wp2_with fail
  clear hW2_l hW2_0
  refine (HIK.out _).mono ?_
  rintro e w4 ⟨rfl, hb4⟩
  have hW4 := hW2.below hb4
  have hF4 := hF2.below hb4
  have hQ4 := hQ.below hb4
  have hb4' := below_next hb2 hb4
  clear hW2 hF2 hQ hb2 hb4 HIK
  cases hk : keyB who
  ·
   go_wp2_with fail
   refine bodyPost_ret (v := .tuple #[.slice none 0 0, .int .i64 5]) (by simp only [results, Tryz.results36]; go_simp) rfl ?_
   exact ⟨hb4', rfl⟩
  ·
   have hQ4_l := hQ4.lt; have hQ4_0 := hQ4.cell 0; simp at hQ4_0
   go_wp2_with fail
   clear hQ4_l hQ4_0
   refine (HTM2.out _ _ _ _ _ _ hF4 hb4').mono ?_
   rintro e w5 ⟨v, rfl, hown, hb5⟩
   have hz4 := hb4'.size
   have hW5 := hW4.below hb5
   have hF5 := hF4.below hb5
   have hQ5 := hQ4.below hb5
   have hb5' := below_next hb4' hb5
   have hol := hown.lt
   have HD := Lib.hid (deleteTmd_any w4.heap.size T v 95 #[.pointer (some ⟨nf, 0, none⟩), .pointer (some ⟨w.heap.size + 1, 0, none⟩)] (fun t => !inB (talkSp g t.1) who) w5 hown hll (enters_of Tryz.func95 (by kernel_rfl) rfl) (fun W' x hx hk9 => by
    have hb9 : Below w4.heap.size w4 W' := belowKp hb5 hk9 (fun j hj => (hol j hj).1) hb5.size
    exact HCL2.out fb br bs bt bb nf (w.heap.size + 1) x W' (hF4.below hb9) (below_next hb4' hb9) hx (by have h0 := (hQ4.below hb9).cell 0; simpa using h0) (by have h0 := (hW4.below hb9).cell 0; simpa using h0)))
   rw [← HBL.out] at HD
   clear hW4 hF4 hQ4 hb4' hW5 hF5 hQ5 hown
   go_wp2_with fail
   refine HD.out.mono ?_
   rintro e w6 ⟨v6, rfl, hown6, -, hk6⟩
   have hb6 := belowKp hb5' hk6 (fun j hj => by have := (hol j hj).1; omega) hb5'.size
   have hown7 := hown6.mono hz4
   clear HD hown6 hk6 hb5 hb5'
   go_wp2_with fail
   refine bodyPost_ret (v := .tuple #[v6, .int .i64 0]) (by simp only [results, Tryz.results36]; go_simp) rfl ?_
   exact ⟨hb6, v6, rfl, hown7⟩
set_option maxRecDepth 100000 in
set_option maxHeartbeats 8000000 in
theorem busyOf_any (g : Grd) (p : List Ses) (pa : Option Addr) (pc : Nat) (who : ByteArray) (w : World) (hg : GRd w g) (hz : GSm g) (hp : PRg w pa p) (hpl : p.length ≤ 1000) (hpo : ∀ s ∈ p, SesOk s) :
  Calls Tryz.prog 42 #[g.agg, .slice pa p.length pc, .string who] w (GivesOwn 86 (busyL g p who) w) := by
 have HTM := Lib.hid (fun W (h : Below w.heap.size w W) => timesOf_any g p pa pc W (hg.below h) hz (hp.below h) hpl hpo)
 have HCL := Lib.hid (fun qg qw t W (h : Below w.heap.size w W) hG hcw => busyOfClo_any g qg qw t who W (hg.below h) hz hG hcw)
 have hll : (sortTmd (timesL g p)).length ≤ 1000000 := by
  rw [sortTmd_len]
  have := timesTo_len (g := g) (fun s hs => (hpo s hs).2.2.1) p.length (Nat.le_refl _)
  unfold timesL
  omega
 have HBL : Hid (busyL g p who = (sortTmd (timesL g p)).filter (fun t => !!inB (talkSp g t.1) who)) := rfl
 generalize busyL g p who = BL at *
 generalize sortTmd (timesL g p) = T at *
 clear hg hz hp hpo
 rw [Grd.agg_eq] at HTM ⊢
 have hX := (Box.new w 32 #[.slice g.ra g.rooms.length g.rc, .slice g.sa g.slots.length g.sc, .slice g.ta g.talks.length g.tc, .slice g.wa g.wishes.length g.wc, .slice g.ba g.bans.length g.bc]).alloc (.cells #[.string who] 9)
 have hW := Box.newAt (w.alloc (.cells #[.slice g.ra g.rooms.length g.rc, .slice g.sa g.slots.length g.sc, .slice g.ta g.talks.length g.tc, .slice g.wa g.wishes.length g.wc, .slice g.ba g.bans.length g.bc] 32)) (w.heap.size + 1) 9 #[.string who] (by simp)
 have hb0 : Below w.heap.size w ((w.alloc (.cells #[.slice g.ra g.rooms.length g.rc, .slice g.sa g.slots.length g.sc, .slice g.ta g.talks.length g.tc, .slice g.wa g.wishes.length g.wc, .slice g.ba g.bans.length g.bc] 32)).alloc (.cells #[.string who] 9)) := ((Below.refl _ _).alloc (Nat.le_refl _) _).alloc (by simp) _
 go_enter Tryz.func42, Tryz.ntmps42
 go_upto_region 1 with (fail)
 generalize (w.alloc (.cells #[.slice g.ra g.rooms.length g.rc, .slice g.sa g.slots.length g.sc, .slice g.ta g.talks.length g.tc, .slice g.wa g.wishes.length g.wc, .slice g.ba g.bans.length g.bc] 32)).alloc (.cells #[.string who] 9) = w1 at *
 have hX_l := hX.lt; have hX_0 := hX.cell 0; have hX_1 := hX.cell 1; have hX_2 := hX.cell 2; have hX_3 := hX.cell 3; have hX_4 := hX.cell 4; simp at hX_0 hX_1 hX_2 hX_3 hX_4
 go_wp2_with fail
 clear hX_l hX_0 hX_1 hX_2 hX_3 hX_4
 refine (HTM.out _ hb0).mono ?_
 rintro e w5 ⟨v, rfl, hown, hb5⟩
 have hz1 := hb0.size
 have hb5' := below_next hb0 hb5
 have hol := hown.lt
 have HD := Lib.hid (deleteTmd_any w1.heap.size T v 103 #[.pointer (some ⟨w.heap.size, 0, none⟩), .pointer (some ⟨w.heap.size + 1, 0, none⟩)] (fun t => !inB (talkSp g t.1) who) w5 hown hll (enters_of Tryz.func103 (by kernel_rfl) rfl) (fun W' x hx hk9 => by
  have hb9 : Below w1.heap.size w1 W' := belowKp hb5 hk9 (fun j hj => (hol j hj).1) hb5.size
  exact HCL.out w.heap.size (w.heap.size + 1) x W' (below_next hb0 hb9) (hX.below hb9) (by have h0 := (hW.below hb9).cell 0; simpa using h0)))
 rw [← HBL.out] at HD
 clear hX hW hown HTM HCL
 go_wp2_with fail
 refine HD.out.mono ?_
 rintro e w6 ⟨v6, rfl, hown6, -, hk6⟩
 have hb6 := belowKp hb5' hk6 (fun j hj => by have := (hol j hj).1; omega) hb5'.size
 have hown7 := hown6.mono hz1
 clear HD hown6 hk6 hb5 hb5'
 go_wp2_with fail
 go_ret
 exact ⟨_, rfl, hown7, hb6⟩
end Go.Proofs.YthnbcdgbpofnjaaGreatDoor
