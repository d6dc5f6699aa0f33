/- Which talks a programme lacks, by the reference; where papers of a right programme are. -/
import Derived.Test.YtaecdhdnjmckpaaGreatDoorCost
import Derived.Test.YtaecdhdnjmckpaaGreatDoorSort
import Derived.Test.YtaecdhdnjmckpaaGreatDoorStrs
/-! Which talks a programme lacks, by the reference; where papers of a right programme are. -/
namespace Go.Proofs.YtaecdhdnjmckpaaGreatDoor
open Go.RowKit
set_option linter.unusedVariables false
set_option linter.unusedSimpArgs false

/-- The number of the first session that has a paper, or -1. -/
def placeI (p : List Ses) (x : ByteArray) : Int := idxI (fun s => inB s.papers x) p
set_option maxRecDepth 100000 in
theorem placedClo_any (s : Ses) (x : ByteArray) (bq : Nat) (w : World) (hc : w.cell? ⟨bq, 0, none⟩ = some (.string x)) (hs : SA w s.a1 s.papers) (hl : s.papers.length ≤ 1000000) :
  Calls Tryz.prog 134 #[s.agg, .pointer (some ⟨bq, 0, none⟩)] w (Gives (.bool (inB s.papers x)) w) := by
 have HT := Lib.hid (fun W (h : SA W s.a1 s.papers) => contains_any s.papers s.a1 s.c1 x W h (by omega))
 have hlt := cell_lt hc
 have HB : Hid (s.papers.any (fun y => decide (y = x)) = inB s.papers x) := rfl
 obtain ⟨s1, s2, s3, s4, s5⟩ := s
 simp only at HT hs hl HB
 unfold Ses.agg
 simp only
 have hE := Box.new w 114 #[.string s1, .string s2, .slice s4 s3.length s5]
 have hs1 := hs.alloc (.cells #[.string s1, .string s2, .slice s4 s3.length s5] 114)
 have hb1 : Below w.heap.size w (w.alloc (.cells #[.string s1, .string s2, .slice s4 s3.length s5] 114)) := (Below.refl _ _).alloc (Nat.le_refl _) _
 have hc1 : (w.alloc (.cells #[.string s1, .string s2, .slice s4 s3.length s5] 114)).cell? ⟨bq, 0, none⟩ = some (.string x) := cell_later hb1 hc
 clear hc hs
 go_enter Tryz.func134, Tryz.ntmps134
 go_upto_region 1 with (fail)
 generalize w.alloc (.cells #[.string s1, .string s2, .slice s4 s3.length s5] 114) = w1 at *
 have hE_l := hE.lt; have hE_0 := hE.cell 0; have hE_1 := hE.cell 1; have hE_2 := hE.cell 2; simp at hE_0 hE_1 hE_2
 go_wp2_with fail
 refine (HT.out _ hs1).mono ?_
 rintro e w2 ⟨rfl, rfl⟩
 go_wp2_with fail
 go_ret
 exact ⟨by rw [← HB.out] <;> rfl, hb1⟩
set_option maxRecDepth 100000 in
theorem placed_any (p : List Ses) (pa : Option Addr) (pc : Nat) (x : ByteArray) (w : World) (hp : PRg w pa p) (hpl : p.length ≤ 1000000) (hpo : ∀ s ∈ p, s.papers.length ≤ 1000) :
  Calls Tryz.prog 69 #[.slice pa p.length pc, .string x] w (Gives (.int .i64 (placeI p x)) w) := by
 have hX := Box.new w 9 #[.string x]
 have hb0 : Below w.heap.size w (w.alloc (.cells #[.string x] 9)) := (Below.refl _ _).alloc (Nat.le_refl _) _
 have HF := Lib.hid (indexSes_any p pa pc 134 #[.pointer (some ⟨w.heap.size, 0, none⟩)] (fun s => inB s.papers x) (w.alloc (.cells #[.string x] 9)) (enters_of Tryz.func134 (by kernel_rfl) rfl) (hp.below hb0).list (by omega) (fun s hs W hW => placedClo_any s x w.heap.size W (by have h0 := (hX.below hW).cell 0; simpa using h0) (((hp.below hb0).below hW).papers s hs) (by have := hpo s hs; omega)))
 have HR : Hid (placeI p x = idxI (fun s => inB s.papers x) p) := rfl
 generalize placeI p x = R at *
 clear hp hpo
 go_enter Tryz.func69, Tryz.ntmps69
 go_upto_region 1 with (fail)
 generalize w.alloc (.cells #[.string x] 9) = w1 at *
 go_wp2_with fail
 refine HF.out.mono ?_
 rintro e w2 ⟨r, rfl, -, hb2, hr⟩
 have hbN := below_next hb0 hb2
 have Hr := Lib.hid (hr.trans HR.out.symm)
 clear HF HR hr hX hb0 hb2
 go_wp2_with fail
 go_ret
 exact ⟨by rw [Hr.out] <;> rfl, hbN⟩
theorem placeI_neg (p : List Ses) (x : ByteArray) : decide (placeI p x < 0) = !inP p x := by
 unfold placeI inP idxI
 cases h : p.findIdx? (fun s => inB s.papers x) with
 | none =>
  rw [List.findIdx?_eq_none_iff] at h
  have : p.any (fun s => inB s.papers x) = false := by
   rw [List.any_eq_false]; intro s hs; rw [h s hs]; decide
  rw [this]; rfl
 | some k =>
  rw [List.findIdx?_eq_some_iff_getElem] at h
  obtain ⟨hk, h1, -⟩ := h
  have : p.any (fun s => inB s.papers x) = true := List.any_eq_true.2 ⟨p[k], List.getElem_mem hk, h1⟩
  rw [this]
  show decide ((k : Int) < 0) = false
  exact decide_eq_false (by omega)
set_option maxRecDepth 100000 in
set_option maxHeartbeats 4000000 in
theorem missingOf_any (g : Grd) (p : List Ses) (pa : Option Addr) (pc : Nat) (w : World) (hg : GRd w g) (hz : GSm g) (hp : PRg w pa p) (hpl : p.length ≤ 1000000) (hpo : ∀ s ∈ p, SesOk s) :
  Calls Tryz.prog 150 #[g.agg, .slice pa p.length pc] w (GivesOwn 9 (missL g p) w) := by
 have HPL := Lib.hid (fun x W (h : Below w.heap.size w W) => placed_any p pa pc x W (hp.below h) hpl (fun s hs => (hpo s hs).2.2.1))
 have HG := Lib.hid (fun W (h : Below w.heap.size w W) => hg.below h)
 have HR : Hid (missL g p = missTo g p g.talks.length) := by show _ = _; unfold missTo; rw [List.take_length]; rfl
 have HL := Lib.hid (missTo_len g p)
 have hn := hz.talks
 generalize missL g p = R at *
 clear hg hz hp hpo
 rw [Grd.agg_eq]
 have hX := Box.new w 32 #[.slice g.ra g.rooms.length g.rc, .slice g.sa g.slots.length g.sc, .slice g.ta g.talks.length g.tc, .slice g.wa g.wishes.length g.wc, .slice g.ba g.bans.length g.bc]
 have hb0 : Below w.heap.size w (w.alloc (.cells #[.slice g.ra g.rooms.length g.rc, .slice g.sa g.slots.length g.sc, .slice g.ta g.talks.length g.tc, .slice g.wa g.wishes.length g.wc, .slice g.ba g.bans.length g.bc] 32)) := (Below.refl _ _).alloc (Nat.le_refl _) _
 go_enter Tryz.func150, Tryz.ntmps150
 go_upto_region 2 with (fail)
 generalize w.alloc (.cells #[.slice g.ra g.rooms.length g.rc, .slice g.sa g.slots.length g.sc, .slice g.ta g.talks.length g.tc, .slice g.wa g.wishes.length g.wc, .slice g.ba g.bans.length g.bc] 32) = w1 at *
 have hX_l := hX.lt; have hX_0 := hX.cell 0; have hX_1 := hX.cell 1; have hX_2 := hX.cell 2; have hX_3 := hX.cell 3; have hX_4 := hX.cell 4; simp at hX_0 hX_1 hX_2 hX_3 hX_4
 go_wp2_with fail
 clear hX_l hX_0 hX_1 hX_2 hX_3 hX_4
 clear hX
 go_loopg [5, 11] g.talks.length (fun gk v' iv wr => ∃ (k : Nat) (v : Value), v = v' ∧ iv = .int .i64 k ∧ k ≤ g.talks.length ∧ Hid (gk = g.talks.length - k) ∧ Own w.heap.size 9 wr v (missTo g p k) ∧ Below w.heap.size w wr)
 case atStart => exact ⟨0, _, rfl, rfl, by omega, rfl, Own.nil _ _ _, hb0⟩
 case round =>
  clear hb0
  obtain ⟨k, v, rfl, rfl, hk, hgk, hown, hb⟩ := hrel
  by_cases hlt : k < g.talks.length
  ·
   obtain ⟨b, off, ha, c0, c1, c2, c3⟩ := (HG.out _ hb).talks.tlkC hlt
   have Hsu := Lib.hid (missTo_succ (p := p) hlt)
   have hll := HL.out k
   have Hneg := Lib.hid (placeI_neg p g.talks[k].paper)
   generalize missTo g p k = acc at *
   generalize g.talks[k] = x at *
   obtain ⟨t1, t2, t3, t4, t5, t6, t7, t8⟩ := x
   simp only at c0 c1 c2 c3 Hsu Hneg
   have HPx := Lib.hid (fun W (h : Below w.heap.size w W) => HPL.out t1 W h)
   generalize placeI p t1 = pi at *
   have Ha := Lib.hid ha
   rw [ha]
   clear ha
   go_upto_region 5 with (fail)
   have hT1 := Box.new wr 69 #[.string t1, .slice t5 t2.length t6, .slice t7 t3.length t8, .int .i64 t4]
   have hb2 := hb.alloc hb.size (.cells #[.string t1, .slice t5 t2.length t6, .slice t7 t3.length t8, .int .i64 t4] 69)
   have hown2 := hown.alloc (.cells #[.string t1, .slice t5 t2.length t6, .slice t7 t3.length t8, .int .i64 t4] 69)
   clear hb hown c0 c1 c2 c3
   generalize wr.alloc (.cells #[.string t1, .slice t5 t2.length t6, .slice t7 t3.length t8, .int .i64 t4] 69) = w2 at *
   generalize wr.heap.size = n2 at *
   have hT1_l := hT1.lt; have hT1_0 := hT1.cell 0; have hT1_1 := hT1.cell 1; have hT1_2 := hT1.cell 2; have hT1_3 := hT1.cell 3; simp at hT1_0 hT1_1 hT1_2 hT1_3
   go_wp2_with fail
   clear hT1_l hT1_0 hT1_1 hT1_2 hT1_3
   refine (HPx.out _ hb2).mono ?_
   rintro e w3 ⟨rfl, hb3⟩
   have hT3 := hT1.below hb3
   have hown3 := hown2.below hb3
   have hb3' := below_next hb2 hb3
   clear hT1 hown2 hb2 hb3 HPx
   have hT3_l := hT3.lt; have hT3_0 := hT3.cell 0; have hT3_1 := hT3.cell 1; have hT3_2 := hT3.cell 2; have hT3_3 := hT3.cell 3; simp at hT3_0 hT3_1 hT3_2 hT3_3
   cases hib : inP p t1
   ·
    rw [hib] at Hneg
    have hd : decide (pi < 0) = true := Hneg.out
    have Hs2 : Hid (missTo g p (k + 1) = acc ++ [t1]) := by show _ = _; rw [Hsu.out, hib]; rfl
    clear hib Hsu Hneg
    have hown4 := hown3.alloc (.cells #[.string t1] 9)
    have hbo := Box.new w3 9 #[.string t1]
    have hb4 := hb3'.alloc hb3'.size (.cells #[.string t1] 9)
    have hol := hown4.lt
    have hbz := hb3'.size
    go_upto_region 7 with (at_builtin; refine wpList_append_lie (α := ByteArray) rfl _ _ 56 rfl 9 16 (.string ⟨#[]⟩) Tryz.underlying56 Tryz.infoString rfl _ acc rfl hown4 t1 _ rfl hbo (by omega) (by omega) (by simp; omega) ?_; intro g9 cap9 w9 hown9 hg9 hat9)
    clear hT3_l hT3_0 hT3_1 hT3_2 hT3_3
    have hb9 := hb4.grown hg9 (by have := hb4.size; omega) (fun j hj => by have := (hol j hj).1; omega)
    clear hd hown3 hb3' hown4 hbo hb4 hol hbz hg9 hat9 hT3
    rw [← Hs2.out] at hown9
    go_wp2_with fail
    rw [← Ha.out]
    go_roundg (g.talks.length - (k + 1))
    case measure => have := hgk.out; omega
    case rel => exact ⟨k + 1, _, rfl, by go_num, by omega, rfl, hown9, hb9⟩
   ·
    rw [hib] at Hneg
    have hd : decide (pi < 0) = false := Hneg.out
    have Hs2 : Hid (missTo g p (k + 1) = acc) := by show _ = _; rw [Hsu.out, hib, if_pos rfl, List.append_nil]
    clear hib Hsu Hneg
    go_wp2_with fail
    rw [← Ha.out]
    go_roundg (g.talks.length - (k + 1))
    case measure => have := hgk.out; omega
    case rel => exact ⟨k + 1, _, rfl, by go_num, by omega, rfl, (by rw [Hs2.out]; exact hown3), hb3'⟩
  ·
   obtain rfl : k = g.talks.length := by omega
   rw [← HR.out] at hown
   go_wp2_with fail
   go_ret
   exact ⟨_, rfl, hown, hb⟩
/-- The papers of a right programme are distinct. -/
theorem seen_nd {g : Grd} {p : List Ses} (h : firstErr (sesE g p) p.length = 0) : ∀ k, k ≤ p.length → (seenTo p k).Nodup
 | 0, _ => by unfold seenTo; simp
 | k + 1, hk => by
  have hkl : k < p.length := by omega
  have ih := seen_nd h k (by omega)
  rw [seenTo_succ hkl]
  have h1 := firstErr_all h k hkl
  rw [sesE_at hkl] at h1
  split at h1
  ·
   exact absurd h1 (by decide)
  split at h1
  ·
   exact absurd h1 (by decide)
  split at h1
  ·
   exact absurd h1 (by decide)
  split at h1
  ·
   next h4 => exact absurd h1 h4
  next h4 =>
  have h5 := firstErr_all (Classical.not_not.1 h4)
  have hj : ∀ j, j ≤ p[k].papers.length → (seenTo p k ++ p[k].papers.take j).Nodup := by
   intro j
   induction j with
   | zero => intro _; rw [List.take_zero, List.append_nil]; exact ih
   | succ j ihj =>
    intro hjl
    have hjj : j < p[k].papers.length := by omega
    have h6 := h5 j hjj
    rw [papE_at hjj] at h6
    split at h6
    ·
     exact absurd h6 (by decide)
    split at h6
    ·
     exact absurd h6 (by decide)
    next h7 =>
    rw [List.take_succ_eq_append_getElem hjj, ← List.append_assoc, List.nodup_append]
    refine ⟨ihj (by omega), by simp, ?_⟩
    intro a ha b hb e
    rw [List.mem_singleton] at hb
    subst hb
    subst e
    exact h7 (inB_iff.2 ha)
  have := hj _ (Nat.le_refl _)
  rwa [List.take_length] at this
theorem mem_seen {p : List Ses} {i k : Nat} {x : ByteArray} (hi : i < p.length) (hik : i < k) (h : x ∈ p[i].papers) : x ∈ seenTo p k := by
 unfold seenTo
 refine List.mem_flatMap.2 ⟨p[i], ?_, h⟩
 exact List.mem_take_iff_getElem.2 ⟨i, by omega, rfl⟩
theorem uniq_paper {g : Grd} {p : List Ses} (h : firstErr (sesE g p) p.length = 0) {i k : Nat} (hi : i < p.length) (hk : k < p.length) {x : ByteArray} (h1 : inB p[i].papers x = true) (h2 : inB p[k].papers x = true) : i = k := by
 have h1 := inB_iff.1 h1
 have h2 := inB_iff.1 h2
 have key : ∀ a b (ha : a < p.length) (hb : b < p.length), a < b → x ∈ p[a].papers → x ∈ p[b].papers → False := by
  intro a b ha hb hab m1 m2
  have nd := seen_nd h (b + 1) (by omega)
  rw [seenTo_succ hb, List.nodup_append] at nd
  exact nd.2.2 x (mem_seen ha hab m1) x m2 rfl
 apply Classical.byContradiction
 intro hne
 rcases Nat.lt_or_gt_of_ne hne with hlt | hlt
 ·
  exact key i k hi hk hlt h1 h2
 ·
  exact key k i hk hi hlt h2 h1
theorem placeI_at {g : Grd} {p : List Ses} (h : firstErr (sesE g p) p.length = 0) {i : Nat} (hi : i < p.length) {x : ByteArray} (h1 : inB p[i].papers x = true) : placeI p x = i := by
 unfold placeI
 refine idxI_at hi h1 (fun s hs => ?_)
 obtain ⟨k, hk, rfl⟩ := List.mem_iff_getElem.1 hs
 rw [List.length_take] at hk
 rw [List.getElem_take]
 cases e : inB (p[k]'(by omega)).papers x
 ·
  rfl
 ·
  have := uniq_paper h (by omega) hi e h1
  omega
end Go.Proofs.YtaecdhdnjmckpaaGreatDoor

/-! The papers beside a paper, by the program and by the reference. -/
namespace Go.Proofs.YtaecdhdnjmckpaaGreatDoor
open Go.RowKit Go.Sort
set_option linter.unusedVariables false
set_option linter.unusedSimpArgs false

/-- The papers of the first k sessions that are at the time of the i-th one, but for it. -/
def besTo (g : Grd) (p : List Ses) (i : Nat) (y : Ses) : Nat → List ByteArray
 | 0 => []
 | k + 1 => besTo g p i y k ++ (match p[k]? with
  | none => []
  | some s => if (!decide (k = i) && meetsB g s y) = true then s.papers else [])
theorem besTo_succ {g : Grd} {p : List Ses} {i : Nat} {y : Ses} {k : Nat} (h : k < p.length) : besTo g p i y (k + 1) = besTo g p i y k ++ (if (!decide (k = i) && meetsB g p[k] y) = true then p[k].papers else []) := by
 show besTo g p i y k ++ (match p[k]? with | none => [] | some s => if (!decide (k = i) && meetsB g s y) = true then s.papers else []) = _
 rw [List.getElem?_eq_getElem h]
theorem besTo_sub (g : Grd) (p : List Ses) (i : Nat) (y : Ses) : ∀ k, k ≤ p.length → (besTo g p i y k).Sublist (seenTo p k)
 | 0, _ => List.nil_sublist _
 | k + 1, hk => by
  rw [besTo_succ (by omega : k < p.length), seenTo_succ (by omega : k < p.length)]
  refine (besTo_sub g p i y k (by omega)).append ?_
  split
  ·
   exact List.Sublist.refl _
  ·
   exact List.nil_sublist _
theorem besTo_len {g : Grd} {p : List Ses} {i : Nat} {y : Ses} (h : ∀ s ∈ p, s.papers.length ≤ 1000) (k : Nat) (hk : k ≤ p.length) : (besTo g p i y k).length ≤ 1000 * k :=
 Nat.le_trans (besTo_sub g p i y k hk).length_le (seenTo_len h k)
/-- Of a right programme the sort without and with a look at what stands twice are the same. -/
theorem bes_sort {g : Grd} {p : List Ses} (h : firstErr (sesE g p) p.length = 0) (i : Nat) (y : Ses) : keysS (besTo g p i y p.length) = sortS (besTo g p i y p.length) := by
 have nd : (besTo g p i y p.length).Nodup := (besTo_sub g p i y _ (Nat.le_refl _)).nodup (seen_nd h _ (Nat.le_refl _))
 refine (keysS_is ?_ (fun q => sortS_mem _ q)).symm
 refine rise_sorted _ ?_
 unfold List.Nodup
 rw [List.pairwise_map]
 exact nd.imp (fun {a b} hab e => hab (ba_ext.1 e))

set_option maxRecDepth 100000 in
set_option maxHeartbeats 8000000 in
theorem besideOf_any (g : Grd) (p : List Ses) (pa : Option Addr) (pc : Nat) (x : ByteArray) (i : Nat) (hi : i < p.length) (w : World) (hg : GRd w g) (hz : GSm g) (hp : PRg w pa p) (hpl : p.length ≤ 1000) (hpo : ∀ s ∈ p, SesOk s) (hpx : placeI p x = (i : Nat)) :
  Calls Tryz.prog 197 #[g.agg, .slice pa p.length pc, .string x] w (GivesOwn 9 (keysS (besTo g p i p[i] p.length)) w) := by
 have HPL := Lib.hid (fun W (h : Below w.heap.size w W) => placed_any p pa pc x W (hp.below h) (by omega) (fun s hs => (hpo s hs).2.2.1))
 have HP := Lib.hid (fun W (h : Below w.heap.size w W) => hp.below h)
 have HMT := Lib.hid (fun a b W (h : Below w.heap.size w W) => meets_any g a b W (hg.below h) hz)
 have HPO := Lib.hid (fun s hs => (hpo s hs).2.2.1)
 have HLi := Lib.hid (fun k hk => besTo_len (g := g) (i := i) (y := p[i]) (fun s hs => (hpo s hs).2.2.1) k hk)
 have HY : Hid (∀ W, Below w.heap.size w W → ∃ yb yoff, pa = some ⟨yb, yoff, none⟩ ∧ W.cell? ⟨yb, yoff + i * 3, none⟩ = some (.string p[i].slot) ∧ W.cell? ⟨yb, yoff + i * 3 + 1, none⟩ = some (.string p[i].room) ∧ W.cell? ⟨yb, yoff + i * 3 + 2, none⟩ = some (.slice p[i].a1 p[i].papers.length p[i].c1)) := fun W hW => (hp.below hW).list.sesC hi
 rw [hpx] at HPL
 clear hg hz hp hpo hpx
 rw [Grd.agg_eq] at HMT ⊢
 generalize p[i] = y at *
 have hi2 : (i : Int) < (p.length : Int) := by omega
 have hi0 : (0 : Int) ≤ (i : Int) := by omega
 have HMY := Lib.hid (fun a W (h : Below w.heap.size w W) => HMT.out a y W h)
 obtain ⟨y1, y2, y3, y4, y5⟩ := y
 unfold Ses.agg at HMY
 simp only at HY HMY
 have hX := Box.new w 32 #[.slice g.ra g.rooms.length g.rc, .slice g.sa g.slots.length g.sc, .slice g.ta g.talks.length g.tc, .slice g.wa g.wishes.length g.wc, .slice g.ba g.bans.length g.bc]
 have hb0 : Below w.heap.size w (w.alloc (.cells #[.slice g.ra g.rooms.length g.rc, .slice g.sa g.slots.length g.sc, .slice g.ta g.talks.length g.tc, .slice g.wa g.wishes.length g.wc, .slice g.ba g.bans.length g.bc] 32)) := (Below.refl _ _).alloc (Nat.le_refl _) _
 have hz0 : (w.alloc (.cells #[.slice g.ra g.rooms.length g.rc, .slice g.sa g.slots.length g.sc, .slice g.ta g.talks.length g.tc, .slice g.wa g.wishes.length g.wc, .slice g.ba g.bans.length g.bc] 32)).heap.size = w.heap.size + 1 := by simp
 go_enter Tryz.func197, Tryz.ntmps197
 go_upto_region 1 with (fail)
 generalize w.alloc (.cells #[.slice g.ra g.rooms.length g.rc, .slice g.sa g.slots.length g.sc, .slice g.ta g.talks.length g.tc, .slice g.wa g.wishes.length g.wc, .slice g.ba g.bans.length g.bc] 32) = w1 at *
 go_wp2_with fail
 refine (HPL.out _ hb0).mono ?_
 rintro e w2 ⟨rfl, hb2⟩
 have hX2 := hX.below hb2
 have hb02 := below_next hb0 hb2
 have hz2 : w.heap.size + 1 ≤ w2.heap.size := by have := hb2.size; omega
 clear hX hb0 hb2 HPL hz0
 go_wp2_with fail
 go_loopg [8, 16] p.length (fun gk v' iv wr => ∃ (k : Nat) (v : Value), v = v' ∧ iv = .int .i64 k ∧ k ≤ p.length ∧ Hid (gk = p.length - k) ∧ Own (w.heap.size + 1) 9 wr v (besTo g p i ⟨y1, y2, y3, y4, y5⟩ k) ∧ Box wr w.heap.size 32 #[.slice g.ra g.rooms.length g.rc, .slice g.sa g.slots.length g.sc, .slice g.ta g.talks.length g.tc, .slice g.wa g.wishes.length g.wc, .slice g.ba g.bans.length g.bc] ∧ w.heap.size + 1 ≤ wr.heap.size ∧ Below w.heap.size w wr)
 case atStart => exact ⟨0, _, rfl, rfl, by omega, rfl, Own.nil _ _ _, hX2, hz2, hb02⟩
 case round =>
  clear hX2 hz2 hb02
  obtain ⟨k, v, rfl, rfl, hk, hgk, hown, hX, hzr, hb⟩ := hrel
  by_cases hlt : k < p.length
  ·
   obtain ⟨b, off, ha, c0, c1, c2⟩ := (HP.out _ hb).list.sesC hlt
   have hxm : p[k] ∈ p := List.getElem_mem hlt
   have HXP := Lib.hid (fun W (h : Below w.heap.size w W) => (HP.out W h).papers _ hxm)
   have hxl := HPO.out _ hxm
   have HBz := Lib.hid (fun W (h : Below w.heap.size w W) => HMY.out p[k] W h)
   have Hsu := Lib.hid (besTo_succ (g := g) (i := i) (y := ⟨y1, y2, y3, y4, y5⟩) hlt)
   have hll := HLi.out k hk
   have HYb : Hid (∀ W, Below w.heap.size w W → W.cell? ⟨b, off + i * 3, none⟩ = some (.string y1) ∧ W.cell? ⟨b, off + i * 3 + 1, none⟩ = some (.string y2) ∧ W.cell? ⟨b, off + i * 3 + 2, none⟩ = some (.slice y4 y3.length y5)) := fun W hW => by
    obtain ⟨b9, o9, h9, z⟩ := HY.out W hW
    rw [ha] at h9; cases h9; exact z
   obtain ⟨yb, yoff, rfl, rfl⟩ : ∃ yb yoff, yb = b ∧ yoff = off := ⟨_, _, rfl, rfl⟩
   generalize besTo g p i ⟨y1, y2, y3, y4, y5⟩ k = acc at *
   generalize hmb : meetsB g p[k] ⟨y1, y2, y3, y4, y5⟩ = mb at *
   generalize p[k] = s at *
   obtain ⟨s1, s2, s3, s4, s5⟩ := s
   simp only at c0 c1 c2 HXP hxl HBz Hsu
   have Ha := Lib.hid ha
   rw [ha]
   clear ha hxm hmb
   go_upto_region 6 with (fail)
   have hE1 := Box.new wr 114 #[.string s1, .string s2, .slice s4 s3.length s5]
   have hb1 := hb.alloc hb.size (.cells #[.string s1, .string s2, .slice s4 s3.length s5] 114)
   have hown1 := hown.alloc (.cells #[.string s1, .string s2, .slice s4 s3.length s5] 114)
   have hX1 := hX.alloc (.cells #[.string s1, .string s2, .slice s4 s3.length s5] 114)
   have hz1 : w.heap.size + 1 ≤ (wr.alloc (.cells #[.string s1, .string s2, .slice s4 s3.length s5] 114)).heap.size := by simp; omega
   clear hb hown hX c0 c1 c2
   generalize wr.alloc (.cells #[.string s1, .string s2, .slice s4 s3.length s5] 114) = w5 at *
   generalize wr.heap.size = n5 at *
   obtain ⟨e0, e1, e2⟩ := HYb.out _ hb1
   by_cases hki : k = i
   ·
    have hq : ((k : Int) != (i : Int)) = false := by simp; omega
    have Hs2 : Hid (besTo g p i ⟨y1, y2, y3, y4, y5⟩ (k + 1) = acc) := by show _ = _; rw [Hsu.out, decide_eq_true hki]; simp
    clear Hsu hki
    refine wp_region_held_drew (S := (fun wx => Below w5.heap.size w5 wx)) (by kernel_rfl) ?hS (fun hHeld => ?_)
    case hS => exact (Below.refl _ _).drew
    refine rt 0 (some 21) ?_
    refine rt 1 (some 22) ?_
    refine rt 2 (some 23) ?_
    (try rw [hq])
    refine rt 3 (some 24) ?_
    refine rs 4 (some 25) ?_
    refine rs 5 (some 26) ?_
    refine rs 6 (some 27) ?_
    refine rs 7 (some 28) ?_
    refine rs 8 (some 29) ?_
    refine rs 9 (some 30) ?_
    refine rcall (i := 10) (d := (some 31)) (by kernel_rfl) rfl (by kernel_rfl) (fun K hK => ?_)
    rw [if_neg (by rw [show Region.wanted _ _ = false by kernel_rfl]; decide)]
    refine hK.out _ _ ?hS (fun hHeld => ?_)
    case hS => exact hHeld
    clear hK K
    simp only [Act.put, lsetA, lsetZ, lsetS]
    refine rt 11 (some 32) ?_
    refine wpAnyH_done (by kernel_rfl) ?_ _
    have hb6 := below_next hb1 hHeld
    have hown6 := hown1.below hHeld
    have hX6 := hX1.below hHeld
    have hz6 := hHeld.size
    clear hHeld hb1 hown1 hE1 hX1 e0 e1 e2
    go_wp2_with fail
    rw [← Ha.out]
    go_roundg (p.length - (k + 1))
    case measure => have := hgk.out; omega
    case rel => exact ⟨k + 1, _, rfl, by go_num, by omega, rfl, (by rw [Hs2.out]; exact hown6), hX6, by omega, hb6⟩
   ·
    have hq : ((k : Int) != (i : Int)) = true := by simp; omega
    have Hs2 : Hid (besTo g p i ⟨y1, y2, y3, y4, y5⟩ (k + 1) = acc ++ if mb = true then s3 else []) := by show _ = _; rw [Hsu.out, decide_eq_false hki]; simp
    clear Hsu hki
    have hE1_l := hE1.lt; have hE1_0 := hE1.cell 0; have hE1_1 := hE1.cell 1; have hE1_2 := hE1.cell 2; simp at hE1_0 hE1_1 hE1_2
    have hX1_l := hX1.lt; have hX1_0 := hX1.cell 0; have hX1_1 := hX1.cell 1; have hX1_2 := hX1.cell 2; have hX1_3 := hX1.cell 3; have hX1_4 := hX1.cell 4; simp at hX1_0 hX1_1 hX1_2 hX1_3 hX1_4
    refine wp_region_held_drew (S := (fun wx => wx.cell? ⟨n5, 0, none⟩ = some (.string s1) ∧ wx.cell? ⟨n5, 1, none⟩ = some (.string s2) ∧ wx.cell? ⟨n5, 2, none⟩ = some (.slice s4 s3.length s5) ∧ wx.cell? ⟨yb, yoff + i * 3, none⟩ = some (.string y1) ∧ wx.cell? ⟨yb, yoff + i * 3 + 1, none⟩ = some (.string y2) ∧ wx.cell? ⟨yb, yoff + i * 3 + 2, none⟩ = some (.slice y4 y3.length y5) ∧ wx.cell? ⟨w.heap.size, 0, none⟩ = some (.slice g.ra g.rooms.length g.rc) ∧ wx.cell? ⟨w.heap.size, 1, none⟩ = some (.slice g.sa g.slots.length g.sc) ∧ wx.cell? ⟨w.heap.size, 2, none⟩ = some (.slice g.ta g.talks.length g.tc) ∧ wx.cell? ⟨w.heap.size, 3, none⟩ = some (.slice g.wa g.wishes.length g.wc) ∧ wx.cell? ⟨w.heap.size, 4, none⟩ = some (.slice g.ba g.bans.length g.bc) ∧ Below w5.heap.size w5 wx)) (by kernel_rfl) ?hS (fun hHeld => ?_)
    case hS => exact ⟨hE1_0, hE1_1, hE1_2, e0, e1, e2, hX1_0, hX1_1, hX1_2, hX1_3, hX1_4, (Below.refl _ _).drew⟩
    refine rt 0 (some 21) ?_
    refine rt 1 (some 22) ?_
    refine rt 2 (some 23) ?_
    (try rw [hq])
    refine rt 3 (some 24) ?_
    refine rt 4 (some 25) ?_
    refine rt 5 (some 26) ?_
    refine rt 6 (some 27) ?_
    refine rt 7 (some 28) ?_
    refine rt 8 (some 29) ?_
    refine rt 9 (some 30) ?_
    refine rcall (i := 10) (d := (some 31)) (by kernel_rfl) rfl (by kernel_rfl) (fun K hK => ?_)
    rw [if_pos (by kernel_rfl)]; go_simp; go_at_call 100; refine (HBz.out _ (below_next hb1 hHeld.2.2.2.2.2.2.2.2.2.2.2)).mono ?_; rintro e w6 ⟨rfl, hb6⟩
    refine hK.out _ _ ?hS (fun hHeld => ?_)
    case hS => exact ⟨cell_later hb6 hHeld.1, cell_later hb6 hHeld.2.1, cell_later hb6 hHeld.2.2.1, cell_later hb6 hHeld.2.2.2.1, cell_later hb6 hHeld.2.2.2.2.1, cell_later hb6 hHeld.2.2.2.2.2.1, cell_later hb6 hHeld.2.2.2.2.2.2.1, cell_later hb6 hHeld.2.2.2.2.2.2.2.1, cell_later hb6 hHeld.2.2.2.2.2.2.2.2.1, cell_later hb6 hHeld.2.2.2.2.2.2.2.2.2.1, cell_later hb6 hHeld.2.2.2.2.2.2.2.2.2.2.1, below_next hHeld.2.2.2.2.2.2.2.2.2.2.2 hb6⟩
    clear hK K
    simp only [Act.put, lsetA, lsetZ, lsetS]
    refine rt 11 (some 32) ?_
    refine wpAnyH_done (by kernel_rfl) ?_ _
    have hb6' := below_next hb1 hHeld.2.2.2.2.2.2.2.2.2.2.2
    have hown6 := hown1.below hHeld.2.2.2.2.2.2.2.2.2.2.2
    have hX6 := hX1.below hHeld.2.2.2.2.2.2.2.2.2.2.2
    have hz6 := (hHeld.2.2.2.2.2.2.2.2.2.2.2).size
    have hE6_2 := hHeld.2.2.1
    clear hE1_l hE1_0 hE1_1 hE1_2
    clear hX1_l hX1_0 hX1_1 hX1_2 hX1_3 hX1_4
    clear hHeld hb1 hown1 hE1 hX1 e0 e1 e2 hb6
    generalize World.drew w6 = w7 at *
    cases mb
    ·
     go_wp2_with fail
     rw [← Ha.out]
     go_roundg (p.length - (k + 1))
     case measure => have := hgk.out; omega
     case rel => exact ⟨k + 1, _, rfl, by go_num, by omega, rfl, (by rw [Hs2.out]; simpa using hown6), hX6, by omega, hb6'⟩
    ·
     have hxp := HXP.out _ hb6'
     have hol := hown6.lt
     go_wp2_with (at_builtin; refine wpList_append_all (α := ByteArray) rfl _ _ 56 rfl 9 16 (.string ⟨#[]⟩) Tryz.underlying56 Tryz.infoString rfl v acc rfl hown6 s3 s4 s5 rfl hxp (by omega) (by omega) (by omega) ?_; intro v8 w8 hown8 hg8)
     have hz8 := ((Kp.refl (fun j => v.ownBlock = some j) _).grown hg8 (fun j hj => .inl hj)).size
     have hb8 := hb6'.grown hg8 (by omega) (fun j hj => by have := (hol j hj).1; omega)
     have hX8 := hX6.grown hg8 (fun e => by have := (hol _ e.symm).1; omega)
     rw [show acc ++ s3 = besTo g p i ⟨y1, y2, y3, y4, y5⟩ (k + 1) by rw [Hs2.out]; rfl] at hown8
     rw [← Ha.out]
     (try go_wp2_with fail)
     go_roundg (p.length - (k + 1))
     case measure => have := hgk.out; omega
     case rel => exact ⟨k + 1, _, rfl, by go_num, by omega, rfl, hown8, hX8, by omega, hb8⟩
  ·
   obtain rfl : k = p.length := by omega
   have hll := HLi.out p.length (Nat.le_refl _)
   generalize besTo g p i ⟨y1, y2, y3, y4, y5⟩ p.length = bt0 at *
   obtain ⟨a9, c9, rfl, hsa, -, -⟩ := hown.form
   have HSD := Lib.hid (sorted_any bt0 a9 c9 wr hsa (by omega))
   clear hown hX hsa
   go_wp2_with fail
   refine HSD.out.mono ?_
   rintro e w8 ⟨v8, rfl, hown8, hb8⟩
   have hb9 := below_next hb hb8
   have hown9 := hown8.mono hb.size
   clear HSD hown8 hb8
   go_wp2_with fail
   go_ret
   exact ⟨_, rfl, hown9, hb9⟩
/-- What a list of a right programme comes with. -/
def ListRes {α : Type} [Cel α] (T : TypeId) (g : Grd) (p : List Ses) (l : List α) (w : World) (e : Ending) (w' : World) : Prop :=
 Below w.heap.size w w' ∧ ((bothF g p ≠ 0 ∧ e = .returned (.tuple #[.slice none 0 0, .int .i64 (bothF g p)])) ∨ (bothF g p = 0 ∧ ∃ v, e = .returned (.tuple #[v, .int .i64 0]) ∧ Own w.heap.size T w' v l))
end Go.Proofs.YtaecdhdnjmckpaaGreatDoor
