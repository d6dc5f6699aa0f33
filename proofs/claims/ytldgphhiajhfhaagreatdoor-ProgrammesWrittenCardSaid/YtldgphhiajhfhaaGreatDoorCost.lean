/- What is wrong with a programme, by the program. -/
import Derived.Test.YtldgphhiajhfhaaGreatDoorPrgC3
/-! What is wrong with a programme, by the program. -/
namespace Go.Proofs.YtldgphhiajhfhaaGreatDoor
open Go.RowKit
set_option linter.unusedVariables false
set_option linter.unusedSimpArgs false

/-- The block of a map. -/
structure MapB where
 id : Nat
instance instCelMapB : Cel MapB := ⟨1, fun t => [.map (some t.id)], fun _ => rfl, by decide, by simp [Value.oneCell']⟩
theorem SA.mpC {w : World} {a : Option Addr} {l : List MapB} (h : SA w a l) {i : Nat} (hi : i < l.length) :
  ∃ b off, a = some ⟨b, off, none⟩ ∧ w.cell? ⟨b, off + i, none⟩ = some (.map (some l[i].id)) := by
 obtain ⟨b, off, ha, hc⟩ := h.at hi
 have h1 := hc 0 (by decide)
 rw [show off + (i * Cel.k MapB + 0) = off + i from by show off + (i * 1 + 0) = _; omega] at h1
 exact ⟨b, off, ha, h1⟩
theorem mget_mem : ∀ {l : List (ByteArray × Value)} {k : ByteArray} {v : Value}, mget l k = some v → (k, v) ∈ l
 | [], _, _, h => by cases h
 | q :: r, k, v, h => by
  unfold mget at h
  by_cases hk : q.1 = k
  ·
   rw [if_pos hk] at h
   have h2 := Option.some.inj h
   subst hk; subst h2
   exact List.mem_cons_self
  ·
   rw [if_neg hk] at h
   exact List.mem_cons_of_mem _ (mget_mem h)
theorem mem_mget : ∀ {l : List (ByteArray × Value)} {q : ByteArray × Value}, q ∈ l → (mget l q.1).isSome = true
 | r :: l, q, h => by
  unfold mget
  by_cases hk : r.1 = q.1
  ·
   rw [if_pos hk]; rfl
  ·
   rw [if_neg hk]
   rcases List.mem_cons.1 h with rfl | h
   ·
    exact absurd rfl hk
   ·
    exact mem_mget h
theorem set_mem {l : List ByteArray} {q : ByteArray × Value} (h : q ∈ setOf l) : inB l q.1 = true := by
 have h1 := mem_mget h
 rw [setOf_get] at h1
 cases e : inB l q.1
 ·
  rw [e] at h1; cases h1
 ·
  rfl
theorem set_has {l : List ByteArray} {x : ByteArray} (h : inB l x = true) : ∃ q ∈ setOf l, q.1 = x := by
 have h1 := setOf_get l x
 rw [if_pos h] at h1
 exact ⟨_, mget_mem h1, rfl⟩
theorem inB_iff {l : List ByteArray} {x : ByteArray} : inB l x = true ↔ x ∈ l := by
 unfold inB
 rw [List.any_eq_true]
 exact ⟨fun ⟨y, hy, e⟩ => (of_decide_eq_true e) ▸ hy, fun h => ⟨x, h, decide_eq_true rfl⟩⟩
theorem shares_no {a b : List ByteArray} (h : ∀ q ∈ setOf b, inB a q.1 = false) : sharesB a b = false := by
 cases e : sharesB a b
 ·
  rfl
 ·
  unfold sharesB at e
  obtain ⟨x, hx, h2⟩ := List.any_eq_true.1 e
  obtain ⟨q, hq, rfl⟩ := set_has h2
  have h3 := inB_iff.2 hx
  rw [h q hq] at h3
  cases h3
theorem shares_yes {a b : List ByteArray} {q : ByteArray × Value} (h : q ∈ setOf b) (h2 : inB a q.1 = true) : sharesB a b = true := by
 unfold sharesB
 exact List.any_eq_true.2 ⟨q.1, inB_iff.1 h2, set_mem h⟩
/-- A ban is there. -/
def banned (g : Grd) (y s : ByteArray) : Bool := g.bans.any (fun b => decide (b = (y, s)))
theorem banTo_get (l : List Ban2) (x : Two) : ∀ k, k ≤ l.length → gget (banTo l k) x = if (l.take k).any (fun b => decide (b = x)) = true then some (.bool true) else none
 | 0, _ => by simp [banTo, gget]
 | k + 1, hk => by
  rw [banTo_succ (by omega : k < l.length), gget_gput, banTo_get l x k (by omega), List.take_succ_eq_append_getElem (by omega : k < l.length), List.any_append]
  by_cases h : l[k] = x
  ·
   rw [if_pos h]
   simp [h]
  ·
   rw [if_neg h, List.any_cons, List.any_nil, decide_eq_false h, Bool.or_false, Bool.or_false]
theorem lookBan {g : Grd} {b : Nat} {w : World} (h : GBox enc2 ok2 w b (banTo g.bans g.bans.length)) (x y : ByteArray) (hx : x.size ≤ 1000000) (hy : y.size ≤ 1000000) : (Instr.lookup 141 (.map (some b)) (.agg #[.string x, .string y]) false).run Tryz.prog w = .ok (.bool (banned g x y)) w := by
 have h1 := GBox.look h keys2 Tryz.underlying141 _ Tryz.zeroValue4 (x, y) ⟨hx, hy⟩ false
 refine Eq.trans h1 ?_
 unfold glooked
 rw [if_neg (by decide), banTo_get _ _ _ (Nat.le_refl _), List.take_length]
 unfold banned
 cases (g.bans.any fun b => decide (b = (x, y))) <;> rfl
theorem ban_yes {g : Grd} {sp : List ByteArray} {s y : ByteArray} (h : inB sp y = true) (h2 : banned g y s = true) : (g.bans.any fun b => decide (b.2 = s) && inB sp b.1) = true := by
 obtain ⟨b, hb, e⟩ := List.any_eq_true.1 h2
 obtain rfl := of_decide_eq_true e
 exact List.any_eq_true.2 ⟨_, hb, by simp [h]⟩
theorem ban_no {g : Grd} {sp : List ByteArray} {s : ByteArray} (h : ∀ q ∈ setOf sp, banned g q.1 s = false) : (g.bans.any fun b => decide (b.2 = s) && inB sp b.1) = false := by
 rw [List.any_eq_false]
 intro b hb e
 rw [Bool.and_eq_true] at e
 obtain ⟨q, hq, hqe⟩ := set_has e.2
 have h1 := h q hq
 have h2 : banned g q.1 s = true := List.any_eq_true.2 ⟨b, hb, decide_eq_true (Prod.ext hqe.symm (of_decide_eq_true e.1))⟩
 rw [h1] at h2
 cases h2
theorem form_ok {g : Grd} {p : List Ses} (h : firstErr (sesE g p) p.length = 0) : ∀ s ∈ p, (slotOf g s.slot).isSome = true ∧ ∀ x ∈ s.papers, (talkOf g x).isSome = true := by
 intro s hs
 obtain ⟨k, hk, rfl⟩ := List.mem_iff_getElem.1 hs
 have h1 := firstErr_all h k hk
 rw [sesE_at hk] at h1
 by_cases c1 : (!(slotOf g p[k].slot).isSome || !(roomOf g p[k].room).isSome) = true
 ·
  rw [if_pos c1] at h1; exact absurd h1 (by decide)
 ·
  rw [if_neg c1] at h1
  have hsl : (slotOf g p[k].slot).isSome = true := by
   cases e : (slotOf g p[k].slot).isSome
   ·
    rw [e] at c1; exact absurd rfl c1
   ·
    rfl
  refine ⟨hsl, ?_⟩
  by_cases c2 : (decide (0 < k) && decide (0 ≤ sesOrd (p[k - 1]'(by omega)) p[k])) = true
  ·
   rw [if_pos c2] at h1; exact absurd h1 (by decide)
  ·
   rw [if_neg c2] at h1
   by_cases c3 : p[k].papers.length = 0
   ·
    rw [if_pos c3] at h1; exact absurd h1 (by decide)
   ·
    rw [if_neg c3] at h1
    by_cases c4 : firstErr (papE g (seenTo p k) p[k].papers) p[k].papers.length ≠ 0
    ·
     rw [if_pos c4] at h1; exact absurd h1 c4
    ·
     intro x hx
     obtain ⟨j, hj, rfl⟩ := List.mem_iff_getElem.1 hx
     have h2 := firstErr_all (by simpa using c4) j hj
     rw [papE_at hj] at h2
     cases e : (talkOf g p[k].papers[j]).isSome
     ·
      rw [e, if_pos rfl] at h2; exact absurd h2 (by decide)
     ·
      rfl
/-- Maps with the speakers of the first sessions; none of them in block r. -/
def Ppl (g : Grd) (p : List Ses) (ms : List MapB) (w : World) (r : Option Nat) : Prop := ∀ j x, ms[j]? = some x → ∃ hj : j < p.length, MBox w x.id (setOf (speakersOf g (p[j]'hj))) ∧ r ≠ some x.id
theorem Ppl.below {g : Grd} {p : List Ses} {ms : List MapB} {w w' : World} {r : Option Nat} (h : Ppl g p ms w r) (hb : Below w.heap.size w w') : Ppl g p ms w' r := fun j x hx => by
 obtain ⟨hj, h1, h2⟩ := h j x hx
 exact ⟨hj, h1.below hb, h2⟩
set_option maxRecDepth 100000 in
set_option maxHeartbeats 16000000 in
theorem faultP_any (g : Grd) (fb br bs bt bb : Nat) (p : List Ses) (pa : Option Addr) (pc : Nat) (w : World) (hF : FieldAt g fb br bs bt bb w) (hg : GRd w g) (hz : GSm g) (hn : GNd g) (hp : PRg w pa p) (hpl : p.length ≤ 1000000) (hpo : ∀ s ∈ p, SesOk s) (hpc : p.length ≤ pc) :
  Calls Tryz.prog 38 #[.pointer (some ⟨fb, 0, none⟩), .slice pa p.length pc] w (Gives (.int .i64 (progFault g p)) w) := by
 have HFM := Lib.hid (fun W (h : Below w.heap.size w W) => formP_any g fb br bs bt bb p pa pc W (hF.below h) (hg.below h) hz hn (hp.below h) hpl hpo hpc)
 have HG := Lib.hid (fun W (h : Below w.heap.size w W) => hg.below h)
 have HF := Lib.hid (fun W (h : Below w.heap.size w W) => hF.below h)
 have HP := Lib.hid (fun W (h : Below w.heap.size w W) => hp.below h)
 have HZM := Lib.hid hz
 have HPO := Lib.hid hpo
 have HN := Lib.hid hn
 have HR : Hid (progFault g p = if 800 < p.length then 2 else if firstErr (sesE g p) p.length ≠ 0 then firstErr (sesE g p) p.length else firstErr (cflE g p) p.length) := rfl
 have HOK := Lib.hid (@form_ok g p)
 generalize progFault g p = R at *
 generalize hfe : firstErr (sesE g p) p.length = fe at *
 clear hz hg hp hpo hF hn hfe
 have hX0 := Box.new w 85 #[.pointer (some ⟨fb, 0, none⟩)]
 have hb0 : Below w.heap.size w (w.alloc (.cells #[.pointer (some ⟨fb, 0, none⟩)] 85)) := (Below.refl _ _).alloc (Nat.le_refl _) _
 go_enter Tryz.func38, Tryz.ntmps38
 by_cases q1 : 800 < p.length
 ·
  have hd : decide ((800 : Int) < (p.length : Int)) = true := decide_eq_true (by omega)
  have He : Hid (R = 2) := by show _ = _; rw [HR.out, if_pos q1]
  clear HR q1
  go_wp2_with fail
  go_ret
  exact ⟨by rw [He.out] <;> rfl, hb0⟩
 ·
  have hd : decide ((800 : Int) < (p.length : Int)) = false := decide_eq_false (by omega)
  rw [if_neg q1] at HR
  have hp800 : p.length ≤ 800 := by omega
  clear q1
  have hX0_l := hX0.lt; have hX0_0 := hX0.cell 0; simp at hX0_0
  go_wp2_with fail
  clear hX0_l hX0_0
  refine (HFM.out _ hb0).mono ?_
  rintro e w2 ⟨rfl, hb2⟩
  have hX1 := hX0.below hb2
  have hb1 := below_next hb0 hb2
  clear hX0 hb0 hb2 hd HFM
  by_cases q2 : fe = 0
  ·
   subst q2
   rw [if_neg (by decide)] at HR
   have HOK2 := Lib.hid (HOK.out rfl)
   clear HOK
   go_wp2_with fail
   go_loopg [6, 26] p.length (fun gk v' iv wr => ∃ (k : Nat) (v : Value) (ms : List MapB), v = v' ∧ iv = .int .i64 k ∧ k ≤ p.length ∧ Hid (gk = p.length - k) ∧ Own (w.heap.size + 1) 145 wr v ms ∧ ms.length = k ∧ Ppl g p ms wr v.ownBlock ∧ w.heap.size + 1 ≤ wr.heap.size ∧ Box wr w.heap.size 85 #[.pointer (some ⟨fb, 0, none⟩)] ∧ Below w.heap.size w wr)
   case atStart => exact ⟨0, _, [], rfl, rfl, by omega, rfl, Own.nil _ _ _, rfl, (fun j x hx => by cases hx), (by have := hX1.lt; omega), hX1, hb1⟩
   case round =>
    clear hX1 hb1
    obtain ⟨_, v, ms, rfl, rfl, hk, hgk, hown, rfl, hpp, hzr, hX, hb⟩ := hrel
    by_cases hlt : ms.length < p.length
    ·
     obtain ⟨b, off, ha, c0, c1, c2⟩ := (HP.out _ hb).list.sesC hlt
     have hxm : p[ms.length] ∈ p := List.getElem_mem hlt
     have HSP := Lib.hid (fun W (h : Below w.heap.size w W) => speakersP_any g fb br bs bt bb p[ms.length] W (HF.out W h) (HG.out W h) HZM.out HN.out ((HP.out W h).papers _ hxm) (HPO.out _ hxm).2.2.1 (HOK2.out _ hxm).2)
     have Hsp : Hid (∃ sp, speakersOf g p[ms.length] = sp) := ⟨_, rfl⟩
     obtain ⟨sp, hsp⟩ := Hsp.out
     have HSE := Lib.hid hsp
     rw [hsp] at HSP
     have Ha := Lib.hid ha
     rw [ha]
     clear ha hxm Hsp hsp
     generalize hxx : p[ms.length] = x at *
     have Hxx := Lib.hid hxx
     clear hxx
     obtain ⟨s1, s2, s3, s4, s5⟩ := x
     unfold Ses.agg at HSP
     simp only at c0 c1 c2 HSP
     go_upto_region 10 with (fail)
     have hX1 := hX.alloc (.cells #[.string s1, .string s2, .slice s4 s3.length s5] 67)
     have hE1 := Box.new wr 67 #[.string s1, .string s2, .slice s4 s3.length s5]
     have hb1 := hb.alloc hb.size (.cells #[.string s1, .string s2, .slice s4 s3.length s5] 67)
     have hown1 := hown.alloc (.cells #[.string s1, .string s2, .slice s4 s3.length s5] 67)
     have hpp1 := hpp.below ((Below.refl _ _).alloc (Nat.le_refl _) (.cells #[.string s1, .string s2, .slice s4 s3.length s5] 67))
     have hz1 : w.heap.size + 1 ≤ (wr.alloc (.cells #[.string s1, .string s2, .slice s4 s3.length s5] 67)).heap.size := by simp; omega
     clear hX hb hown hpp hzr c0 c1 c2
     generalize wr.alloc (.cells #[.string s1, .string s2, .slice s4 s3.length s5] 67) = w3 at *
     generalize wr.heap.size = n3 at *
     have hX1_l := hX1.lt; have hX1_0 := hX1.cell 0; simp at hX1_0
     have hE1_l := hE1.lt; have hE1_0 := hE1.cell 0; have hE1_1 := hE1.cell 1; have hE1_2 := hE1.cell 2; simp at hE1_0 hE1_1 hE1_2
     go_wp2_with fail
     clear hX1_l hX1_0
     clear hE1_l hE1_0 hE1_1 hE1_2
     refine (HSP.out _ hb1).mono ?_
     rintro e w4 ⟨bm, rfl, hbm, hMm, hb4⟩
     have hX2 := (hX1.below hb4).alloc (.cells #[.map (some bm)] 145)
     have hown2 := (hown1.below hb4).alloc (.cells #[.map (some bm)] 145)
     have hnew := (Below.refl w4.heap.size w4).alloc (Nat.le_refl _) (.cells #[.map (some bm)] 145)
     have hppa := hpp1.below hb4
     have hpp2 := hppa.below hnew
     have hMm2 := hMm.below hnew
     have hb5 := (below_next hb1 hb4).alloc (below_next hb1 hb4).size (.cells #[.map (some bm)] 145)
     have hbo := Box.new w4 145 #[.map (some bm)]
     have hz4 := hb4.size
     have hol := hown1.lt
     have hbml := hMm.lt
     have hz5 : w4.heap.size < (w4.alloc (.cells #[.map (some bm)] 145)).heap.size := by simp
     obtain ⟨la, lc, rfl, hla, -, -⟩ := hown2.form
     clear hX1 hE1 hb1 hown1 hpp1 hMm hnew hb4
     go_upto_region 11 with (at_builtin; refine wpList_append_lie (α := MapB) rfl _ _ 144 rfl 145 8 (.map none) Tryz.underlying144 (by kernel_rfl) rfl _ ms rfl hown2 ⟨bm⟩ _ rfl hbo (by omega) (by omega) (by simp; omega) ?_; intro g9 cap9 w9 hown9 hg9 hat9)
     have hz9 := ((Kp.refl (fun j => (Value.slice la ms.length lc).ownBlock = some j) _).grown hg9 (fun j hj => .inl hj)).size
     have hX9 := hX2.grown hg9 (fun e => by have := (hol _ e.symm).1; omega)
     have hb9 := hb5.grown hg9 (by have := hb5.size; omega) (fun j hj => by have := (hol j hj).1; omega)
     have hpp9 : Ppl g p (ms ++ [⟨bm⟩]) w9 (Value.slice (some ⟨g9, 0, none⟩) (ms.length + 1) cap9).ownBlock := fun j x hx => by
      have hgs : ∀ q, q < w4.heap.size → (Value.slice la ms.length lc).ownBlock ≠ some q → (Value.slice (some ⟨g9, 0, none⟩) (ms.length + 1) cap9).ownBlock ≠ some q := fun q hq hq2 e => by
       obtain rfl : g9 = q := Option.some.inj e
       rcases hat9 with h | h
       ·
        exact hq2 h
       ·
        simp at h; omega
      by_cases hj : j < ms.length
      ·
       rw [List.getElem?_append_left hj] at hx
       obtain ⟨hjp, h1, h2⟩ := hpp2 j x hx
       have hml := (hppa j x hx).2.1.lt
       exact ⟨hjp, h1.grown hg9 (fun e => h2 e.symm), hgs _ hml h2⟩
      ·
       rw [List.getElem?_append_right (by omega)] at hx
       have hj2 : j - ms.length = 0 := by
        by_cases h0 : j - ms.length = 0
        ·
         exact h0
        ·
         rw [List.getElem?_eq_none (by simp; omega)] at hx; cases hx
       obtain rfl : j = ms.length := by omega
       rw [hj2] at hx
       obtain rfl : x = ⟨bm⟩ := (Option.some.inj hx).symm
       refine ⟨hlt, ?_, ?_⟩
       ·
        rw [Hxx.out, HSE.out]
        exact hMm2.grown hg9 (fun e => by have := (hol _ e.symm).2; omega)
       ·
        exact hgs bm hbml (fun e => by have := (hol _ e).2; omega)
     have hz10 : w.heap.size + 1 ≤ w9.heap.size := by omega
     clear hX2 hown2 hpp2 hMm2 hb5 hbo hg9 hat9 hz9 hol
     go_wp2_with fail
     rw [← Ha.out]
     go_roundg (p.length - (ms.length + 1))
     case measure => have := hgk.out; omega
     case rel => exact ⟨ms.length + 1, _, _, rfl, by go_num, by omega, rfl, hown9, (by simp), hpp9, hz10, hX9, hb9⟩
    ·
     have hml : ms.length = p.length := by omega
     obtain ⟨la, lc, rfl, hla, -, -⟩ := hown.form
     have HML := Lib.hid hml
     have hmlI : (ms.length : Int) = (p.length : Int) := by omega
     obtain ⟨wz, rfl⟩ : ∃ wz : World, wz = wr := ⟨_, rfl⟩
     have HG2 := Lib.hid (fun W (h : Below wz.heap.size wz W) => HG.out W (below_next hb h))
     have HF2 := Lib.hid (fun W (h : Below wz.heap.size wz W) => HF.out W (below_next hb h))
     have HP2 := Lib.hid (fun W (h : Below wz.heap.size wz W) => HP.out W (below_next hb h))
     have HX2 := Lib.hid (fun W (h : Below wz.heap.size wz W) => hX.below h)
     have HB2 := Lib.hid (fun W (h : Below wz.heap.size wz W) => below_next hb h)
     have HPP := Lib.hid (fun W (h : Below wz.heap.size wz W) => hpp.below h)
     have HLA := Lib.hid (fun W (h : Below wz.heap.size wz W) => hla.below h)
     rw [hml]
     clear hX hb hpp hla hown hml hmlI hlt hgk hk hzr HG HF HP
     have HR2 : Hid (R = firstErr (cflE g p) p.length) := HR.out
     have HC1 : Hid (∀ (s : Ses) (k bs2 : Nat) (W : World), k ≤ p.length → s ∈ p → Below wz.heap.size wz W → Box W bs2 67 #[.string s.slot, .string s.room, .slice s.a1 s.papers.length s.c1] →
       Calls Tryz.prog 73 #[.slice pa k pc, .func (.func 90) #[] #[.pointer (some ⟨bs2, 0, none⟩), .pointer (some ⟨w.heap.size, 0, none⟩)]] W (Gives (.bool ((p.take k).any (fun o => decide (o.room = s.room) && meetsB g o s))) W)) := fun s k bs2 W hk hsp hb hbs => by
      have h := findSes_any (p.take k) pa pc 90 #[.pointer (some ⟨bs2, 0, none⟩), .pointer (some ⟨w.heap.size, 0, none⟩)] (fun o => decide (o.room = s.room) && meetsB g o s) W (enters_of Tryz.func90 (by kernel_rfl) rfl) (SA.takeG (HP2.out W hb).list k) (by rw [List.length_take]; omega) (fun o ho W' hW' => faultClo_any g fb br bs bt bb s o bs2 w.heap.size W' (HF2.out _ (below_next hb hW')) (HG2.out _ (below_next hb hW')) HZM.out HN.out (HOK2.out s hsp).1 (HOK2.out o (List.mem_of_mem_take ho)).1 (hbs.below hW') (by have h0 := (HX2.out _ (below_next hb hW')).cell 0; simpa using h0))
      rw [List.length_take, Nat.min_eq_left hk] at h
      exact h
     have hbz := Below.refl wz.heap.size wz
     clear HR
     go_wp2_with fail
     go_loopg [39] p.length (fun gk iv wr => ∃ k : Nat, iv = .int .i64 k ∧ k ≤ p.length ∧ Hid (gk = p.length - k) ∧ Hid (∀ j, j < k → cflE g p j = 0) ∧ Below wz.heap.size wz wr)
     case atStart => exact ⟨0, rfl, by omega, rfl, (fun j hj => by omega), hbz⟩
     case round =>
      clear hbz
      obtain ⟨k, rfl, hk, hgk, hf, hb⟩ := hrel
      by_cases hlt : k < p.length
      ·
       obtain ⟨b, off, ha, c0, c1, c2⟩ := (HP2.out _ hb).list.sesC hlt
       have Hfe : Hid (∀ e, cflE g p k = e → e ≠ 0 → R = e) := fun e he he0 => HR2.out.trans (firstErr_is hlt hf.out he he0)
       have HE := Lib.hid (cflE_at (g := g) hlt)
       have hxm : p[k] ∈ p := List.getElem_mem hlt
       have hmk : k < ms.length := by have := HML.out; omega
       have HPk := Lib.hid (fun W (h : Below wz.heap.size wz W) => (HLA.out W h).mpC hmk)
       have HMk : Hid (∀ W, Below wz.heap.size wz W → MBox W ms[k].id (setOf (speakersOf g p[k]))) := fun W h => by
        obtain ⟨h1, h2, -⟩ := HPP.out W h k ms[k] (List.getElem?_eq_getElem hmk)
        exact h2
       have HBS := Lib.hid (fun i (hi : i < p.length) W (h : Below wz.heap.size wz W) => besideP_any g fb br bs bt bb p[i] p[k] W (HF2.out W h) (HG2.out W h) HZM.out HN.out (HOK2.out _ (List.getElem_mem hi)).1 (HOK2.out _ hxm).1)
       have hxok := HPO.out _ hxm
       have Hyes : Hid (∀ i (hi : i < p.length), i < k → (meetsB g p[i] p[k] && sharesB (speakersOf g p[i]) (speakersOf g p[k])) = true → (p.take k).any (fun o => meetsB g o p[k] && sharesB (speakersOf g o) (speakersOf g p[k])) = true) := fun i hi hik h => by
        have hit : i < (p.take k).length := by rw [List.length_take]; omega
        exact any_at (i := i) hit (by rw [List.getElem_take]; exact h)
       have Hno : Hid ((∀ i (hi : i < p.length), i < k → (meetsB g p[i] p[k] && sharesB (speakersOf g p[i]) (speakersOf g p[k])) = false) → (p.take k).any (fun o => meetsB g o p[k] && sharesB (speakersOf g o) (speakersOf g p[k])) = false) := fun h => by
        rw [List.any_eq_false]
        intro o ho
        obtain ⟨i, hi, rfl⟩ := List.mem_iff_getElem.1 ho
        rw [List.length_take] at hi
        rw [List.getElem_take, h i (by omega) (by omega)]
        decide
       have Hspb : Hid (∀ q ∈ setOf (speakersOf g p[k]), q.1.size ≤ 1000000) := fun q hq => by
        have h1 := inB_iff.1 (set_mem hq)
        unfold speakersOf at h1
        obtain ⟨y, hy, h2⟩ := List.mem_flatMap.1 h1
        rw [talkSp_or] at h2
        have := (talkOr_ok HZM.out y).2.2.2.1 _ h2
        omega
       have HBY := Lib.hid (fun y (h : inB (speakersOf g p[k]) y = true) (h2 : banned g y p[k].slot = true) => ban_yes h h2)
       have HBN := Lib.hid (fun (h : ∀ q ∈ setOf (speakersOf g p[k]), banned g q.1 p[k].slot = false) => ban_no h)
       have H1 := Lib.hid (fun bs2 W => HC1.out p[k] k bs2 W (by omega) hxm)
       generalize ms[k].id = mk at *
       generalize p[k] = x at *
       generalize ((p.take k).any fun o => decide (o.room = x.room) && meetsB g o x) = a1 at *
       generalize ((p.take k).any fun o => meetsB g o x && sharesB (speakersOf g o) (speakersOf g x)) = a2 at *
       generalize (g.bans.any fun b => decide (b.2 = x.slot) && inB (speakersOf g x) b.1) = a3 at *
       generalize hspx : speakersOf g x = spx at *
       clear hspx
       have Ha := Lib.hid ha
       clear hxm
       rw [ha]
       clear ha
       generalize hmx : meetsB g = mts at *
       clear hmx
       obtain ⟨s1, s2, s3, s4, s5⟩ := x
       unfold Ses.agg at HBS
       simp only at c0 c1 c2 H1 HBS HBY HBN hxok
       have hkc : (k : Int) ≤ (pc : Int) := by omega
       have hk0 : (0 : Int) ≤ (k : Int) := by omega
       go_upto_region 15 with (fail)
       have hE1 := Box.new wr 67 #[.string s1, .string s2, .slice s4 s3.length s5]
       have hb1 := hb.alloc hb.size (.cells #[.string s1, .string s2, .slice s4 s3.length s5] 67)
       have hn2 : wz.heap.size ≤ wr.heap.size := hb.size
       clear hb c0 c1 c2
       generalize wr.alloc (.cells #[.string s1, .string s2, .slice s4 s3.length s5] 67) = w2 at *
       generalize wr.heap.size = n2 at *
       go_wp2_with fail
       rw [← Ha.out]
       refine (H1.out n2 _ hb1 hE1).mono ?_
       rintro e w3 ⟨rfl, hb3⟩
       have hE3 := hE1.below hb3
       have hb3' := below_next hb1 hb3
       clear hE1 hb1 hb3 H1
       cases a1
       ·
        have HE2 : Hid (cflE g p k = if a2 = true then 13 else if a3 = true then 11 else 0) := HE.out
        clear HE
        go_wp2_with fail
        go_loopg [53] k (fun gi iv wq => ∃ i : Nat, iv = .int .i64 i ∧ i ≤ k ∧ Hid (gi = k - i) ∧ Hid (∀ j (hj : j < p.length), j < i → (mts p[j] ⟨s1, s2, s3, s4, s5⟩ && sharesB (speakersOf g p[j]) spx) = false) ∧ Box wq n2 67 #[.string s1, .string s2, .slice s4 s3.length s5] ∧ Below wz.heap.size wz wq)
        case atStart => exact ⟨0, rfl, by omega, rfl, (fun j hj hj0 => by omega), hE3, hb3'⟩
        case round =>
         clear hE3 hb3'
         obtain ⟨i, rfl, hi, hgi, hfi, hE, hb⟩ := hrel
         by_cases hik : i < k
         ·
          have hip : i < p.length := by omega
          clear Hno
          obtain ⟨ob, ooff, hao, d0, d1, d2⟩ := (HP2.out _ hb).list.sesC hip
          have HBi := Lib.hid (fun W (h : Below wz.heap.size wz W) => HBS.out i hip W h)
          have Hyes1 := Lib.hid (fun h => Hyes.out i hip hik h)
          have Hnx : Hid ((mts p[i] ⟨s1, s2, s3, s4, s5⟩ && sharesB (speakersOf g p[i]) spx) = false → ∀ j (hj : j < p.length), j < i + 1 → (mts p[j] ⟨s1, s2, s3, s4, s5⟩ && sharesB (speakersOf g p[j]) spx) = false) := fun h j hj hji => by
           by_cases hjj : j < i
           ·
            exact hfi.out j hj hjj
           ·
            obtain rfl : j = i := by omega
            exact h
          have hmi : i < ms.length := by have := HML.out; omega
          have HPi := Lib.hid (fun W (h : Below wz.heap.size wz W) => (HLA.out W h).mpC hmi)
          have HMi : Hid (∀ W, Below wz.heap.size wz W → MBox W ms[i].id (setOf (speakersOf g p[i]))) := fun W h => by
           obtain ⟨h1, h2, -⟩ := HPP.out W h i ms[i] (List.getElem?_eq_getElem hmi)
           exact h2
          have HSY := Lib.hid (fun (q : ByteArray × Value) (h : q ∈ setOf spx) (h2 : inB (speakersOf g p[i]) q.1 = true) => shares_yes (a := speakersOf g p[i]) h h2)
          have HSN := Lib.hid (fun (h : ∀ q ∈ setOf spx, inB (speakersOf g p[i]) q.1 = false) => shares_no h)
          clear hfi Hyes
          generalize ms[i].id = mi at *
          generalize mts p[i] ⟨s1, s2, s3, s4, s5⟩ = mb at *
          generalize sharesB (speakersOf g p[i]) spx = sb at *
          generalize speakersOf g p[i] = spi at *
          generalize p[i] = y at *
          obtain ⟨y1, y2, y3, y4, y5⟩ := y
          simp only at d0 d1 d2 HBi
          have Hao := Lib.hid hao
          rw [hao]
          clear hao
          have hip2 : (i : Int) < (p.length : Int) := by omega
          have hikc : (i : Int) < (k : Int) := by omega
          go_upto_region 20 with (fail)
          have hO := Box.new wr 67 #[.string y1, .string y2, .slice y4 y3.length y5]
          have hbq := hb.alloc hb.size (.cells #[.string y1, .string y2, .slice y4 y3.length y5] 67)
          have hEq := hE.alloc (.cells #[.string y1, .string y2, .slice y4 y3.length y5] 67)
          clear hb hE d0 d1 d2
          generalize wr.alloc (.cells #[.string y1, .string y2, .slice y4 y3.length y5] 67) = wp at *
          generalize wr.heap.size = np at *
          have hXw := (HX2.out _ hbq).cell 0
          simp at hXw
          have hO_l := hO.lt; have hO_0 := hO.cell 0; have hO_1 := hO.cell 1; have hO_2 := hO.cell 2; simp at hO_0 hO_1 hO_2
          have hEq_l := hEq.lt; have hEq_0 := hEq.cell 0; have hEq_1 := hEq.cell 1; have hEq_2 := hEq.cell 2; simp at hEq_0 hEq_1 hEq_2
          go_wp2_with fail
          clear hO_l hO_0 hO_1 hO_2
          clear hEq_l hEq_0 hEq_1 hEq_2
          refine (HBi.out _ hbq).mono ?_
          rintro e w3 ⟨rfl, hb3⟩
          have hE3 := hEq.below hb3
          have hb4 := below_next hbq hb3
          clear hbq hEq hO hXw hb3 HBi
          cases mb
          ·
           have Hn2 := Lib.hid (Hnx.out rfl)
           clear Hnx Hyes1
           go_wp2_with fail
           rw [← Hao.out]
           go_roundg (k - (i + 1))
           case measure => have := hgi.out; omega
           case rel => exact ⟨i + 1, by go_num, by omega, rfl, Hn2.out, hE3, hb4⟩
          ·
           have Hn2 := Lib.hid (fun (h : sb = false) => Hnx.out (by rw [h]; rfl))
           have Hy2 := Lib.hid (fun (h : sb = true) => Hyes1.out (by rw [h]; rfl))
           clear Hnx Hyes1
           have hki : (k : Int) < (p.length : Int) := by omega
           obtain ⟨pb, poff, hla, m0⟩ := HPk.out _ hb4
           have Hla := Lib.hid hla
           rw [hla]
           clear hla
           go_wp2_with ((refine wpList_range_box rfl _ 145 rfl 9 4 Tryz.underlying145 mk _ rfl (HMk.out _ hb4) ?_; intro o' hI))
           go_frame
           have hb6 := hb4.alloc hb4.size o'
           have hE6 := hE3.alloc o'
           have hr6 := hb4.size
           have hz6 : w3.heap.size < (w3.alloc o').heap.size := by simp
           have hn6 := hE3.lt
           clear hb4 hE3 m0
           generalize w3.alloc o' = w6 at *
           generalize w3.heap.size = ri at *
           go_loopg [] (setOf spx).length (fun gl wq => ∃ left : List (ByteArray × Value), Hid (gl = left.length) ∧ IBox wq ri mk (setOf spx) left ∧ Hid (∀ q ∈ left, q ∈ setOf spx) ∧ Hid (∀ q ∈ setOf spx, q ∈ left ∨ inB spi q.1 = false) ∧ Box wq n2 67 #[.string s1, .string s2, .slice s4 s3.length s5] ∧ Below wz.heap.size wz wq ∧ ri < wq.heap.size)
           case atStart => exact ⟨_, rfl, hI, (fun q hq => hq), (fun q hq => .inl hq), hE6, hb6, hz6⟩
           case round =>
            clear hI hE6 hb6 hz6
            obtain ⟨left, hgl, hI, hsub, hdn, hE, hb, hz⟩ := hrel
            go_wp2_with ((refine wpList_next_box rfl _ rfl ri mk (setOf spx) left rfl hI ?_ ?_))
            ·
             intro hnil
             have hsb : sb = false := HSN.out (fun q hq => by
               rcases hdn.out q hq with h | h
               ·
                rw [hnil] at h; cases h
               ·
                exact h)
             have Hn3 := Lib.hid (Hn2.out hsb)
             clear hsb hdn hsub hgl hnil hI HE2 Hfe Hn2 Hy2 HSN HSY
             go_wp2_with fail
             rw [← Hla.out]
             rw [← Hao.out]
             go_roundg (k - (i + 1))
             case measure => have := hgi.out; omega
             case rel => exact ⟨i + 1, by go_num, by omega, rfl, Hn3.out, hE, hb⟩
            ·
             intro p0 kk v q w' hleft hI2 hent hg hsz
             have hin : (kk, v) ∈ setOf spx := hsub.out (kk, v) (by rw [hleft]; simp)
             have hb2 : Below wz.heap.size wz w' := hb.grown hg hb.size (by rintro j hj; cases hj; omega)
             have hE2 := hE.grown hg (fun e => by have := Option.some.inj e; omega)
             have Hdn2 : Hid (inB spi kk = false → ∀ q' ∈ setOf spx, q' ∈ p0 ++ q ∨ inB spi q'.1 = false) := fun h5 q' hq' => by
              rcases hdn.out q' hq' with h2 | h2
              ·
               rw [hleft] at h2
               simp only [List.mem_append, List.mem_cons] at h2 ⊢
               rcases h2 with h2 | h2 | h2
               ·
                exact .inl (.inl h2)
               ·
                right; rw [h2]; exact h5
               ·
                exact .inl (.inr h2)
              ·
               exact .inr h2
             have Hsub2 : Hid (∀ q' ∈ p0 ++ q, q' ∈ setOf spx) := fun q' hq' => hsub.out q' (by rw [hleft]; simp only [List.mem_append, List.mem_cons] at hq' ⊢; exact hq'.elim .inl (fun h => .inr (.inr h)))
             have hlen2 : (p0 ++ q).length < left.length := by rw [hleft]; simp
             have Hshy : Hid (inB spi kk = true → sb = true) := fun h => HSY.out (kk, v) hin h
             have hz2 : ri < w'.heap.size := by omega
             obtain ⟨pb2, poff2, hla2, m2⟩ := HPi.out _ hb2
             obtain ⟨rfl, rfl⟩ : pb = pb2 ∧ poff = poff2 := by
              rw [Hla.out] at hla2; cases hla2; exact ⟨rfl, rfl⟩
             clear hla2
             have hlk := lookSet (HMi.out _ hb2) kk
             clear hdn hsub hin hI hE hb hg hleft hsz
             generalize hib : inB spi kk = ib at *
             clear hib
             cases ib
             ·
              have Hdn3 := Lib.hid (Hdn2.out rfl)
              clear Hdn2 Hshy
              go_wp2_with fail
              go_roundg (p0 ++ q).length
              case measure => have := hgl.out; omega
              case rel => exact ⟨p0 ++ q, rfl, hI2, Hsub2.out, Hdn3.out, hE2, hb2, hz2⟩
             ·
              have He := Lib.hid (Hfe.out 13 (by rw [HE2.out, Hy2.out (Hshy.out rfl)]; rfl) (by decide))
              clear Hfe HE2 HR2 hf
              go_wp2_with fail
              go_ret
              exact ⟨by rw [He.out] <;> rfl, HB2.out _ hb2⟩
         ·
          obtain rfl : i = k := by omega
          have ha2 : a2 = false := Hno.out (fun j hj hjk => hfi.out j hj hjk)
          subst ha2
          have HE3 : Hid (cflE g p i = if a3 = true then 11 else 0) := HE2.out
          clear HE2 Hyes Hno hfi hgi
          have hki : (i : Int) < (p.length : Int) := by omega
          obtain ⟨pb, poff, hla, m0⟩ := HPk.out _ hb
          have Hla := Lib.hid hla
          rw [hla]
          clear hla
          go_wp2_with ((refine wpList_range_box rfl _ 145 rfl 9 4 Tryz.underlying145 mk _ rfl (HMk.out _ hb) ?_; intro o' hI))
          go_frame
          have hb6 := hb.alloc hb.size o'
          have hE6 := hE.alloc o'
          have hn6 := hE.lt
          have hr6 := hb.size
          have hz6 : wr.heap.size < (wr.alloc o').heap.size := by simp
          clear hb hE m0
          generalize wr.alloc o' = w6 at *
          generalize wr.heap.size = ri at *
          go_loopg [] (setOf spx).length (fun gl wq => ∃ left : List (ByteArray × Value), Hid (gl = left.length) ∧ IBox wq ri mk (setOf spx) left ∧ Hid (∀ q ∈ left, q ∈ setOf spx) ∧ Hid (∀ q ∈ setOf spx, q ∈ left ∨ banned g q.1 s1 = false) ∧ Box wq n2 67 #[.string s1, .string s2, .slice s4 s3.length s5] ∧ Below wz.heap.size wz wq ∧ ri < wq.heap.size)
          case atStart => exact ⟨_, rfl, hI, (fun q hq => hq), (fun q hq => .inl hq), hE6, hb6, hz6⟩
          case round =>
           clear hI hE6 hb6 hz6
           obtain ⟨left, hgl, hI, hsub, hdn, hE, hb, hz⟩ := hrel
           go_wp2_with ((refine wpList_next_box rfl _ rfl ri mk (setOf spx) left rfl hI ?_ ?_))
           ·
            intro hnil
            have ha3 : a3 = false := HBN.out (fun q hq => by
              rcases hdn.out q hq with h | h
              ·
               rw [hnil] at h; cases h
              ·
               exact h)
            have Hz : Hid (cflE g p i = 0) := by show _ = _; rw [HE3.out, ha3]; rfl
            clear ha3 hdn hsub hgl hnil hI HE3 Hfe
            go_wp2_with fail
            rw [← Hla.out]
            go_roundg (p.length - (i + 1))
            case measure => have := hgk.out; omega
            case rel => exact ⟨i + 1, by go_num, by omega, rfl, zeros_succ hf.out Hz.out, hb⟩
           ·
            intro p0 kk v q w' hleft hI2 hent hg hsz
            have hin : (kk, v) ∈ setOf spx := hsub.out (kk, v) (by rw [hleft]; simp)
            have hksz : kk.size ≤ 1000000 := Hspb.out _ hin
            have hb2 : Below wz.heap.size wz w' := hb.grown hg hb.size (by rintro j hj; cases hj; omega)
            have hE2 := hE.grown hg (fun e => by have := Option.some.inj e; omega)
            have Hdn2 : Hid (banned g kk s1 = false → ∀ q' ∈ setOf spx, q' ∈ p0 ++ q ∨ banned g q'.1 s1 = false) := fun h5 q' hq' => by
             rcases hdn.out q' hq' with h2 | h2
             ·
              rw [hleft] at h2
              simp only [List.mem_append, List.mem_cons] at h2 ⊢
              rcases h2 with h2 | h2 | h2
              ·
               exact .inl (.inl h2)
              ·
               right; rw [h2]; exact h5
              ·
               exact .inl (.inr h2)
             ·
              exact .inr h2
            have Hsub2 : Hid (∀ q' ∈ p0 ++ q, q' ∈ setOf spx) := fun q' hq' => hsub.out q' (by rw [hleft]; simp only [List.mem_append, List.mem_cons] at hq' ⊢; exact hq'.elim .inl (fun h => .inr (.inr h)))
            have hlen2 : (p0 ++ q).length < left.length := by rw [hleft]; simp
            have Hshy : Hid (banned g kk s1 = true → a3 = true) := fun h => HBY.out kk (set_mem hin) h
            have hz2 : ri < w'.heap.size := by omega
            have hsl : s1.size ≤ 1000000 := by have := hxok.1; simp only at this; omega
            have hFw := HF2.out _ hb2
            have hXw := (HX2.out _ hb2).cell 0
            have hf8 := hFw.box.cell 8
            have he0 := hE2.cell 0
            simp at hXw hf8 he0
            have hgb := hFw.b
            clear hdn hsub hin hI hE hb hg hleft hsz hFw
            go_upto_region 30 with (fail)
            refine wp_region_held_drew (S := (fun wx => wx.cell? ⟨w.heap.size, 0, none⟩ = some (.pointer (some ⟨fb, 0, none⟩)) ∧ wx.cell? ⟨fb, 8, none⟩ = some (.map (some bb)) ∧ wx.cell? ⟨n2, 0, none⟩ = some (.string s1) ∧ GBox enc2 ok2 wx bb (banTo g.bans g.bans.length))) (by kernel_rfl) ?hS (fun hHeld => ?_)
            case hS => exact ⟨hXw, hf8, he0, hgb.drew⟩
            refine rt 0 (some 88) ?_
            refine rt 1 (some 89) ?_
            refine rt 2 (some 90) ?_
            refine rt 3 (some 91) ?_
            refine rt 4 (some 92) ?_
            refine rt 5 (some 93) ?_
            refine rt 6 (some 94) ?_
            refine rt 7 (some 95) ?_
            refine rtake (i := 8) (d := (some 96)) (v := ?_) rfl (by kernel_rfl) (by kernel_rfl) (by kernel_rfl) (by kernel_rfl) (fun _ _ _ h => h) (by kernel_rfl) (by assumption) ?_ ?_
            rotate_left 1
            ·
             (intro wI hSI; have hlk := lookBan hSI.2.2.2 kk s1 hksz hsl; go_simp; (try with_reducible rfl))
            simp only [Act.put, lsetA, lsetZ, lsetS]
            refine wpAnyH_done (by kernel_rfl) ?_ _
            clear hHeld hXw hf8 he0 hgb hent
            have hI3 : IBox w'.drew ri mk (setOf spx) (p0 ++ q) := hI2.same rfl rfl
            have hE3 := hE2.drew
            have hb3 := hb2.drew
            have hz3 : ri < w'.drew.heap.size := hz2
            clear hI2 hE2 hb2 hz2
            generalize w'.drew = w7 at *
            generalize banned g kk s1 = ib at *
            cases ib
            ·
             have Hdn3 := Lib.hid (Hdn2.out rfl)
             clear Hdn2 Hshy
             go_wp2_with fail
             go_roundg (p0 ++ q).length
             case measure => have := hgl.out; omega
             case rel => exact ⟨p0 ++ q, rfl, hI3, Hsub2.out, Hdn3.out, hE3, hb3, hz3⟩
            ·
             have He := Lib.hid (Hfe.out 11 (by rw [HE3.out, Hshy.out rfl]; rfl) (by decide))
             clear Hfe HE3 HR2 hf
             go_wp2_with fail
             go_ret
             exact ⟨by rw [He.out] <;> rfl, HB2.out _ hb3⟩
       ·
        have He := Lib.hid (Hfe.out 13 (by rw [HE.out]; rfl) (by decide))
        clear Hfe HE HR2 hf
        go_wp2_with fail
        go_ret
        exact ⟨by rw [He.out] <;> rfl, HB2.out _ hb3'⟩
      ·
       obtain rfl : k = p.length := by omega
       have He : Hid (R = 0) := by show _ = _; rw [HR2.out, firstErr_zero hf.out]
       clear HR2 hf
       go_wp2_with fail
       go_ret
       exact ⟨by rw [He.out] <;> rfl, HB2.out _ hb⟩
  ·
   have hq : (fe != 0) = true := by simpa using q2
   have He : Hid (R = fe) := by show _ = _; rw [HR.out, if_pos q2]
   clear HR
   go_wp2_with fail
   go_ret
   exact ⟨by rw [He.out] <;> rfl, hb1⟩
end Go.Proofs.YtldgphhiajhfhaaGreatDoor

/-! checked and Check of the program. -/
/-! checked and Check of the program. -/
namespace Go.Proofs.YtldgphhiajhfhaaGreatDoor
open Go.RowKit
set_option linter.unusedVariables false
set_option linter.unusedSimpArgs false

theorem bl_lt : ∀ (x y : List UInt8), Op.bytesLess x y = decide (x < y)
 | _, [] => by simp [Op.bytesLess]
 | [], _ :: _ => by simp [Op.bytesLess]
 | a :: x, b :: y => by
  rw [Op.bytesLess, bl_lt x y, Bool.eq_iff_iff]
  simp [List.cons_lt_cons_iff]
theorem ordB_lt {ks : List ByteArray} {k : Nat} (hk : k + 1 < ks.length) (h : ordB ks (k + 1) = false) : ltS (ks[k]'(by omega)) ks[k + 1] := by
 rw [ordB_at (k := k + 1) (p := k) (x := ks[k + 1]) (y := ks[k]'(by omega)) rfl (List.getElem?_eq_getElem hk) (List.getElem?_eq_getElem (by omega))] at h
 unfold leB at h
 rw [bl_lt, Bool.or_eq_false_iff, decide_eq_false_iff_not, beq_eq_false_iff_ne] at h
 have h1 : (ks[k]'(by omega)).toList ≤ ks[k + 1].toList := List.not_lt.1 h.1
 have h2 := Std.lt_of_le_of_ne h1 (Ne.symm h.2)
 rw [ByteArray.toList_eq, ByteArray.toList_eq] at h2
 exact h2
/-- Keys that rise are distinct. -/
theorem rise_nd {ks : List ByteArray} (h : ∀ k, k < ks.length → ordB ks k = false) : ks.Nodup := by
 have hall : ∀ (k j : Nat) (hk : k < ks.length) (hj : j < k), ltS (ks[j]'(by omega)) ks[k] := by
  intro k
  induction k with
  | zero => intro j _ hj; omega
  | succ k ih =>
   intro j hk hj
   have hs := ordB_lt hk (h _ hk)
   by_cases hjk : j = k
   ·
    subst hjk; exact hs
   ·
    exact ltS_trans (ih j (by omega) (by omega)) hs
 unfold List.Nodup
 rw [List.pairwise_iff_getElem]
 intro i j hi hj hij e
 have := hall j i hj hij
 rw [e] at this
 exact ltS_irrefl _ this
theorem slots_nd {l : List Slt} (h : slotsFault l = 0) : (l.map (·.1)).Nodup := by
 refine rise_nd fun k hk => ?_
 rw [List.length_map] at hk
 unfold slotsFault at h
 split at h
 ·
  exact absurd h (by decide)
 have h2 := firstErr_all h k hk
 unfold slotE at h2
 rw [List.getElem?_eq_getElem hk] at h2
 simp only at h2
 split at h2
 ·
  exact absurd h2 (by decide)
 split at h2
 ·
  exact absurd h2 (by decide)
 ·
  next h3 => simpa using h3
theorem talks_nd {l : List Tlk} (h : talksFault l = 0) : (l.map (·.paper)).Nodup := by
 refine rise_nd fun k hk => ?_
 rw [List.length_map] at hk
 unfold talksFault at h
 split at h
 ·
  exact absurd h (by decide)
 have h2 := firstErr_all h k hk
 unfold talkE at h2
 rw [List.getElem?_eq_getElem hk] at h2
 simp only at h2
 split at h2
 ·
  exact absurd h2 (by decide)
 split at h2
 ·
  exact absurd h2 (by decide)
 ·
  next h3 => simpa using h3
theorem grid_parts {g : Grd} (h : gridFault g = 0) : roomsFault g.rooms = 0 ∧ slotsFault g.slots = 0 ∧ talksFault g.talks = 0 ∧ wishesFault g = 0 ∧ bansFault g = 0 := by
 unfold gridFault at h
 split at h
 ·
  next h1 => exact absurd h h1
 next h1 =>
 split at h
 ·
  next h2 => exact absurd h h2
 next h2 =>
 split at h
 ·
  next h3 => exact absurd h h3
 next h3 =>
 split at h
 ·
  next h4 => exact absurd h h4
 next h4 =>
 exact ⟨Classical.not_not.1 h1, Classical.not_not.1 h2, Classical.not_not.1 h3, Classical.not_not.1 h4, h⟩
theorem gnd_of {g : Grd} (h : gridFault g = 0) : GNd g := ⟨slots_nd (grid_parts h).2.1, talks_nd (grid_parts h).2.2.1⟩
/-- What is wrong with a grid and a programme. -/
def bothF (g : Grd) (p : List Ses) : Int := if gridFault g ≠ 0 then gridFault g else progFault g p
theorem both_ok {g : Grd} {p : List Ses} (h : bothF g p = 0) : gridFault g = 0 ∧ progFault g p = 0 := by
 unfold bothF at h
 split at h
 ·
  next h1 => exact absurd h h1
 ·
  next h1 => exact ⟨Classical.not_not.1 h1, h⟩
/-- What checked returns. -/
def CheckedRes (g : Grd) (p : List Ses) (w : World) (e : Ending) (w' : World) : Prop :=
 Below w.heap.size w w' ∧ ((bothF g p ≠ 0 ∧ e = .returned (.tuple #[.pointer none, .int .i64 (bothF g p)])) ∨ (bothF g p = 0 ∧ ∃ fb br bs bt bb, e = .returned (.tuple #[.pointer (some ⟨fb, 0, none⟩), .int .i64 0]) ∧ FieldAt g fb br bs bt bb w' ∧ w.heap.size ≤ fb))
set_option maxRecDepth 100000 in
set_option maxHeartbeats 4000000 in
theorem checkedP_any (g : Grd) (p : List Ses) (pa : Option Addr) (pc : Nat) (w : World) (hg : GRd w g) (hz : GSm g) (hp : PRg w pa p) (hpl : p.length ≤ 1000000) (hpo : ∀ s ∈ p, SesOk s) (hpc : p.length ≤ pc) :
  Calls Tryz.prog 49 #[g.agg, .slice pa p.length pc] w (CheckedRes g p w) := by
 have HC := Lib.hid (fun W (h : Below w.heap.size w W) => checkGrid_any g W (hg.below h) hz)
 have HF := Lib.hid (fun W (h : Below w.heap.size w W) => fieldOf_any g W (hg.below h) hz)
 have HX := Lib.hid (fun fb br bs bt bb W (hF : FieldAt g fb br bs bt bb W) (h : Below w.heap.size w W) (hn : GNd g) => faultP_any g fb br bs bt bb p pa pc W hF (hg.below h) hz hn (hp.below h) hpl hpo hpc)
 have HN := Lib.hid (@gnd_of g)
 have HR : Hid (bothF g p = if gridFault g ≠ 0 then gridFault g else progFault g p) := rfl
 unfold CheckedRes
 generalize bothF g p = R at *
 generalize gridFault g = gf at *
 generalize progFault g p = pf at *
 clear hg hz hp hpo
 rw [Grd.agg_eq] at HC HF ⊢
 have hX := Box.new w 32 #[.slice g.ra g.rooms.length g.rc, .slice g.sa g.slots.length g.sc, .slice g.ta g.talks.length g.tc, .slice g.wa g.wishes.length g.wc, .slice g.ba g.bans.length g.bc]
 have hb0 : Below w.heap.size w (w.alloc (.cells #[.slice g.ra g.rooms.length g.rc, .slice g.sa g.slots.length g.sc, .slice g.ta g.talks.length g.tc, .slice g.wa g.wishes.length g.wc, .slice g.ba g.bans.length g.bc] 32)) := (Below.refl _ _).alloc (Nat.le_refl _) _
 go_enter Tryz.func49, Tryz.ntmps49
 go_upto_region 1 with (fail)
 generalize w.alloc (.cells #[.slice g.ra g.rooms.length g.rc, .slice g.sa g.slots.length g.sc, .slice g.ta g.talks.length g.tc, .slice g.wa g.wishes.length g.wc, .slice g.ba g.bans.length g.bc] 32) = w1 at *
 have hX_l := hX.lt; have hX_0 := hX.cell 0; have hX_1 := hX.cell 1; have hX_2 := hX.cell 2; have hX_3 := hX.cell 3; have hX_4 := hX.cell 4; simp at hX_0 hX_1 hX_2 hX_3 hX_4
 go_wp2_with fail
 clear hX_l hX_0 hX_1 hX_2 hX_3 hX_4
 refine (HC.out _ hb0).mono ?_
 rintro e w2 ⟨rfl, hb1⟩
 have hX1 := hX.below hb1
 replace hb1 := below_next hb0 hb1
 clear HC hb0 hX
 by_cases q1 : gf = 0
 ·
  subst q1
  have HR2 : Hid (R = pf) := by show _ = _; rw [HR.out, if_neg (by decide)]
  have hn := HN.out rfl
  have HX2 := Lib.hid (fun fb br bs bt bb W hF h => HX.out fb br bs bt bb W hF h hn)
  clear HR HN HX hn
  have hX1_l := hX1.lt; have hX1_0 := hX1.cell 0; have hX1_1 := hX1.cell 1; have hX1_2 := hX1.cell 2; have hX1_3 := hX1.cell 3; have hX1_4 := hX1.cell 4; simp at hX1_0 hX1_1 hX1_2 hX1_3 hX1_4
  go_wp2_with fail
  clear hX1_l hX1_0 hX1_1 hX1_2 hX1_3 hX1_4
  clear hX1
  refine (HF.out _ hb1).mono ?_
  rintro e w2 ⟨fb, br, bs, bt, bb, rfl, hF, hfb, hb2⟩
  have hb12 := below_next hb1 hb2
  have hfb2 : w.heap.size ≤ fb := by have := hb1.size; omega
  clear hb2 hfb
  go_wp2_with fail
  refine (HX2.out _ _ _ _ _ _ hF hb12).mono ?_
  rintro e w3 ⟨rfl, hb3⟩
  have hF3 := hF.below hb3
  have hb13 := below_next hb12 hb3
  clear hF hb3 HX2 HF hb12 hb1
  by_cases q2 : pf = 0
  ·
   subst q2
   go_wp2_with fail
   refine bodyPost_ret (v := .tuple #[.pointer (some ⟨fb, 0, none⟩), .int .i64 0]) (by simp only [results, Tryz.results49]; go_simp) rfl ?_
   exact ⟨hb13, .inr ⟨HR2.out, _, _, _, _, _, rfl, hF3, hfb2⟩⟩
  ·
   have hq : (pf != 0) = true := by simpa using q2
   have Hq2 := Lib.hid q2
   clear q2
   go_wp2_with fail
   refine bodyPost_ret (v := .tuple #[.pointer none, .int .i64 pf]) (by simp only [results, Tryz.results49]; go_simp) rfl ?_
   exact ⟨hb13, .inl ⟨by rw [HR2.out]; exact Hq2.out, by rw [HR2.out]⟩⟩
 ·
  have hq : (gf != 0) = true := by simpa using q1
  have He : Hid (R = gf) := by show _ = _; rw [HR.out, if_pos q1]
  have Hq1 := Lib.hid q1
  clear HR q1
  go_wp2_with fail
  refine bodyPost_ret (v := .tuple #[.pointer none, .int .i64 gf]) (by simp only [results, Tryz.results49]; go_simp) rfl ?_
  exact ⟨hb1, .inl ⟨by rw [He.out]; exact Hq1.out, by rw [He.out]⟩⟩
set_option maxRecDepth 100000 in
set_option maxHeartbeats 4000000 in
theorem checkP_any (g : Grd) (p : List Ses) (pa : Option Addr) (pc : Nat) (w : World) (hg : GRd w g) (hz : GSm g) (hp : PRg w pa p) (hpl : p.length ≤ 1000000) (hpo : ∀ s ∈ p, SesOk s) (hpc : p.length ≤ pc) :
  Calls Tryz.prog 26 #[g.agg, .slice pa p.length pc] w (Gives (.int .i64 (bothF g p)) w) := by
 have HC := Lib.hid (fun W (h : Below w.heap.size w W) => checkedP_any g p pa pc W (hg.below h) hz (hp.below h) hpl hpo hpc)
 unfold CheckedRes at HC
 generalize bothF g p = R at *
 clear hg hz hp hpo
 rw [Grd.agg_eq] at HC ⊢
 have hX := Box.new w 32 #[.slice g.ra g.rooms.length g.rc, .slice g.sa g.slots.length g.sc, .slice g.ta g.talks.length g.tc, .slice g.wa g.wishes.length g.wc, .slice g.ba g.bans.length g.bc]
 have hb0 : Below w.heap.size w (w.alloc (.cells #[.slice g.ra g.rooms.length g.rc, .slice g.sa g.slots.length g.sc, .slice g.ta g.talks.length g.tc, .slice g.wa g.wishes.length g.wc, .slice g.ba g.bans.length g.bc] 32)) := (Below.refl _ _).alloc (Nat.le_refl _) _
 go_enter Tryz.func26, Tryz.ntmps26
 go_upto_region 1 with (fail)
 generalize w.alloc (.cells #[.slice g.ra g.rooms.length g.rc, .slice g.sa g.slots.length g.sc, .slice g.ta g.talks.length g.tc, .slice g.wa g.wishes.length g.wc, .slice g.ba g.bans.length g.bc] 32) = w1 at *
 have hX_l := hX.lt; have hX_0 := hX.cell 0; have hX_1 := hX.cell 1; have hX_2 := hX.cell 2; have hX_3 := hX.cell 3; have hX_4 := hX.cell 4; simp at hX_0 hX_1 hX_2 hX_3 hX_4
 go_wp2_with fail
 clear hX_l hX_0 hX_1 hX_2 hX_3 hX_4
 refine (HC.out _ hb0).mono ?_
 rintro e w2 ⟨hb1, h⟩
 replace hb1 := below_next hb0 hb1
 clear HC hb0 hX
 rcases h with ⟨h0, rfl⟩ | ⟨rfl, fb, br, bs, bt, bb, rfl, -, -⟩
 ·
  clear h0
  go_wp2_with fail
  go_ret
  exact ⟨rfl, hb1⟩
 ·
  go_wp2_with fail
  go_ret
  exact ⟨rfl, hb1⟩
set_option maxRecDepth 100000 in
set_option maxHeartbeats 4000000 in
theorem both_any (g : Grd) (p : List Ses) (pa : Option Addr) (pc : Nat) (w : World) (hg : GRd w g) (hz : GSm g) (hp : PRg w pa p) (hpl : p.length ≤ 1000000) (hpo : ∀ s ∈ p, SesOk s) (hpc : p.length ≤ pc) :
  Calls Tryz.prog 8 #[g.agg, .slice pa p.length pc] w (Gives (.int .i64 (bothF g p)) w) := by
 have HC := Lib.hid (fun W (h : Below w.heap.size w W) => gridFaultR_any g W (hg.below h) hz)
 have HX := Lib.hid (fun W (h : Below w.heap.size w W) => progFaultR_any g p pa pc W (hg.below h) hz (hp.below h) hpl hpo hpc)
 have HR : Hid (bothF g p = if gridFault g ≠ 0 then gridFault g else progFault g p) := rfl
 generalize bothF g p = R at *
 generalize gridFault g = gf at *
 generalize progFault g p = pf at *
 clear hg hz hp hpo
 rw [Grd.agg_eq] at HC HX ⊢
 have hX := Box.new w 32 #[.slice g.ra g.rooms.length g.rc, .slice g.sa g.slots.length g.sc, .slice g.ta g.talks.length g.tc, .slice g.wa g.wishes.length g.wc, .slice g.ba g.bans.length g.bc]
 have hb0 : Below w.heap.size w (w.alloc (.cells #[.slice g.ra g.rooms.length g.rc, .slice g.sa g.slots.length g.sc, .slice g.ta g.talks.length g.tc, .slice g.wa g.wishes.length g.wc, .slice g.ba g.bans.length g.bc] 32)) := (Below.refl _ _).alloc (Nat.le_refl _) _
 go_enter Tryz.func8, Tryz.ntmps8
 go_upto_region 1 with (fail)
 generalize w.alloc (.cells #[.slice g.ra g.rooms.length g.rc, .slice g.sa g.slots.length g.sc, .slice g.ta g.talks.length g.tc, .slice g.wa g.wishes.length g.wc, .slice g.ba g.bans.length g.bc] 32) = w1 at *
 have hX_l := hX.lt; have hX_0 := hX.cell 0; have hX_1 := hX.cell 1; have hX_2 := hX.cell 2; have hX_3 := hX.cell 3; have hX_4 := hX.cell 4; simp at hX_0 hX_1 hX_2 hX_3 hX_4
 go_wp2_with fail
 clear hX_l hX_0 hX_1 hX_2 hX_3 hX_4
 refine (HC.out _ hb0).mono ?_
 rintro e w2 ⟨rfl, hb1⟩
 have hX1 := hX.below hb1
 replace hb1 := below_next hb0 hb1
 clear HC hb0 hX
 by_cases q1 : gf = 0
 ·
  subst q1
  have HR2 : Hid (R = pf) := by show _ = _; rw [HR.out, if_neg (by decide)]
  clear HR
  have hX1_l := hX1.lt; have hX1_0 := hX1.cell 0; have hX1_1 := hX1.cell 1; have hX1_2 := hX1.cell 2; have hX1_3 := hX1.cell 3; have hX1_4 := hX1.cell 4; simp at hX1_0 hX1_1 hX1_2 hX1_3 hX1_4
  go_wp2_with fail
  clear hX1_l hX1_0 hX1_1 hX1_2 hX1_3 hX1_4
  clear hX1
  refine (HX.out _ hb1).mono ?_
  rintro e w2 ⟨rfl, hb2⟩
  go_wp2_with fail
  go_ret
  exact ⟨by rw [HR2.out] <;> rfl, below_next hb1 hb2⟩
 ·
  have hq : (gf != 0) = true := by simpa using q1
  have He : Hid (R = gf) := by show _ = _; rw [HR.out, if_pos q1]
  clear HR q1
  go_wp2_with fail
  go_ret
  exact ⟨by rw [He.out] <;> rfl, hb1⟩
end Go.Proofs.YtldgphhiajhfhaaGreatDoor

/-! Which talks a programme lacks, by the program: sessionOf, missing. -/
namespace Go.Proofs.YtldgphhiajhfhaaGreatDoor
open Go.RowKit
set_option linter.unusedVariables false
set_option linter.unusedSimpArgs false

/-- A programme has a paper. -/
def inP (p : List Ses) (x : ByteArray) : Bool := p.any (fun s => inB s.papers x)
def putAll (v : Value) : List ByteArray → List (ByteArray × Value) → List (ByteArray × Value)
 | [], m => m
 | x :: r, m => putAll v r (mput m x v)
theorem putAll_snoc (v : Value) : ∀ (l : List ByteArray) (m : List (ByteArray × Value)) (x : ByteArray), putAll v (l ++ [x]) m = mput (putAll v l m) x v
 | [], m, x => rfl
 | y :: r, m, x => by
  show putAll v (r ++ [x]) (mput m y v) = _
  rw [putAll_snoc v r]; rfl
theorem inB_cons (y : ByteArray) (r : List ByteArray) (x : ByteArray) : inB (y :: r) x = (decide (y = x) || inB r x) := rfl
theorem putAll_get (v : Value) (x : ByteArray) : ∀ (l : List ByteArray) (m : List (ByteArray × Value)), mget (putAll v l m) x = if inB l x = true then some v else mget m x
 | [], m => rfl
 | y :: r, m => by
  show mget (putAll v r (mput m y v)) x = _
  rw [putAll_get v x r, mget_mput, inB_cons]
  by_cases h : y = x
  ·
   rw [decide_eq_true h, Bool.true_or, if_pos h, if_pos rfl]
   split <;> rfl
  ·
   rw [decide_eq_false h, Bool.false_or, if_neg h]
/-- Where papers are, session by session. -/
def sesTo (p : List Ses) : Nat → List (ByteArray × Value)
 | 0 => []
 | k + 1 => match p[k]? with
  | none => sesTo p k
  | some s => putAll (.int .i64 (k : Nat)) s.papers (sesTo p k)
def sesM (p : List Ses) : List (ByteArray × Value) := sesTo p p.length
theorem sesTo_succ {p : List Ses} {k : Nat} (h : k < p.length) : sesTo p (k + 1) = putAll (.int .i64 (k : Nat)) p[k].papers (sesTo p k) := by
 show (match p[k]? with | none => sesTo p k | some s => putAll (.int .i64 (k : Nat)) s.papers (sesTo p k)) = _
 rw [List.getElem?_eq_getElem h]
theorem sesTo_has {p : List Ses} (x : ByteArray) : ∀ k, k ≤ p.length → (mget (sesTo p k) x).isSome = (p.take k).any (fun s => inB s.papers x)
 | 0, _ => by rw [List.take_zero]; rfl
 | k + 1, hk => by
  rw [sesTo_succ (by omega : k < p.length), putAll_get, List.take_succ_eq_append_getElem (by omega : k < p.length), List.any_append, ← sesTo_has x k (by omega), List.any_cons, List.any_nil, Bool.or_false]
  cases h : inB p[k].papers x
  ·
   rw [if_neg (by decide), Bool.or_false]
  ·
   rw [if_pos rfl, Bool.or_true]; rfl
theorem sesM_has (p : List Ses) (x : ByteArray) : (mget (sesM p) x).isSome = inP p x := by
 unfold sesM inP
 rw [sesTo_has x p.length (Nat.le_refl _), List.take_length]
theorem sesTo_some {p : List Ses} {x : ByteArray} {v : Value} : ∀ k, k ≤ p.length → mget (sesTo p k) x = some v → ∃ i, ∃ hi : i < p.length, i < k ∧ v = .int .i64 (i : Nat) ∧ inB p[i].papers x = true
 | 0, _, h => by cases h
 | k + 1, hk, h => by
  rw [sesTo_succ (by omega : k < p.length), putAll_get] at h
  by_cases hb : inB (p[k]'(by omega)).papers x = true
  ·
   rw [if_pos hb] at h
   exact ⟨k, by omega, by omega, (Option.some.inj h).symm, hb⟩
  ·
   rw [if_neg hb] at h
   obtain ⟨i, hi, h1, h2, h3⟩ := sesTo_some k (by omega) h
   exact ⟨i, hi, by omega, h2, h3⟩
theorem sesM_some {p : List Ses} {x : ByteArray} {v : Value} (h : mget (sesM p) x = some v) : ∃ i, ∃ hi : i < p.length, v = .int .i64 (i : Nat) ∧ inB p[i].papers x = true := by
 obtain ⟨i, hi, -, h2, h3⟩ := sesTo_some p.length (Nat.le_refl _) h
 exact ⟨i, hi, h2, h3⟩
def sesAtV (p : List Ses) (x : ByteArray) : Value := (mget (sesM p) x).getD (.int .i64 0)
theorem lookSes {p : List Ses} {b : Nat} {w : World} (h : MBox w b (sesM p)) (x : ByteArray) : (Instr.lookup 140 (.map (some b)) (.string x) true).run Tryz.prog w = .ok (.tuple #[sesAtV p x, .bool (inP p x)]) w := by
 rw [MBox.look h Tryz.underlying140 Tryz.underlying9 _ Tryz.zeroValue3 x true]
 unfold looked
 rw [sesM_has]
 rfl
set_option maxRecDepth 100000 in
set_option maxHeartbeats 4000000 in
theorem sessionOf_any (p : List Ses) (pa : Option Addr) (pc : Nat) (w : World) (hp : PRg w pa p) (hpl : p.length ≤ 1000000) (hpo : ∀ s ∈ p, s.papers.length ≤ 1000) :
  Calls Tryz.prog 141 #[.slice pa p.length pc] w (fun e w' => ∃ b, e = .returned (.map (some b)) ∧ w.heap.size ≤ b ∧ MBox w' b (sesM p) ∧ Below w.heap.size w w') := by
 have HP := Lib.hid (fun W (h : Below w.heap.size w W) => hp.below h)
 have HPO := Lib.hid hpo
 have HR : Hid (sesM p = sesTo p p.length) := rfl
 generalize sesM p = R at *
 clear hp hpo
 go_enter Tryz.func141, Tryz.ntmps141
 have hmm := @run_makeMap Tryz.prog
 go_upto_region 2 with (fail)
 have hM0 := MBox.newAt w w.heap.size rfl
 have hb1 := (Below.refl w.heap.size w).alloc (Nat.le_refl _) (.map #[] 0)
 clear hmm
 generalize w.alloc (.map #[] 0) = w1 at *
 go_wp2_with fail
 go_loopg [11] p.length (fun gk iv wr => ∃ k : Nat, iv = .int .i64 k ∧ k ≤ p.length ∧ Hid (gk = p.length - k) ∧ MBox wr w.heap.size (sesTo p k) ∧ Below w.heap.size w wr)
 case atStart => exact ⟨0, rfl, by omega, rfl, hM0, hb1⟩
 case round =>
  clear hM0 hb1
  obtain ⟨k, rfl, hk, hgk, hM, hb⟩ := hrel
  by_cases hlt : k < p.length
  ·
   obtain ⟨b, off, ha, c0, c1, c2⟩ := (HP.out _ hb).list.sesC hlt
   have hxm : p[k] ∈ p := List.getElem_mem hlt
   have HXP := Lib.hid (fun W (h : Below w.heap.size w W) => (HP.out W h).papers _ hxm)
   have hxl := HPO.out _ hxm
   have Hsu := Lib.hid (sesTo_succ (p := p) hlt)
   generalize sesTo p k = M at *
   generalize p[k] = x at *
   obtain ⟨s1, s2, s3, s4, s5⟩ := x
   simp only at c0 c1 c2 HXP hxl Hsu
   have Ha := Lib.hid ha
   rw [ha]
   clear ha hxm
   go_upto_region 5 with (fail)
   have hM0 : MBox (wr.alloc (.cells #[.string s1, .string s2, .slice s4 s3.length s5] 67)) w.heap.size (putAll (.int .i64 (k : Nat)) (s3.take 0) M) := hM.alloc _
   have hE := Box.new wr 67 #[.string s1, .string s2, .slice s4 s3.length s5]
   have hb0 := hb.alloc hb.size (.cells #[.string s1, .string s2, .slice s4 s3.length s5] 67)
   clear hM hb c0 c1 c2
   generalize wr.alloc (.cells #[.string s1, .string s2, .slice s4 s3.length s5] 67) = w2 at *
   generalize wr.heap.size = n2 at *
   have hE_l := hE.lt; have hE_0 := hE.cell 0; have hE_1 := hE.cell 1; have hE_2 := hE.cell 2; simp at hE_0 hE_1 hE_2
   go_wp2_with fail
   clear hE_l hE_0 hE_1 hE_2
   clear hE
   go_loopg [19] s3.length (fun gj jv wq => ∃ j : Nat, jv = .int .i64 j ∧ j ≤ s3.length ∧ Hid (gj = s3.length - j) ∧ MBox wq w.heap.size (putAll (.int .i64 (k : Nat)) (s3.take j) M) ∧ Below w.heap.size w wq)
   case atStart => exact ⟨0, rfl, by omega, rfl, hM0, hb0⟩
   case round =>
    clear hM0 hb0
    obtain ⟨j, rfl, hj, hgj, hMq, hbq⟩ := hrel
    by_cases hjl : j < s3.length
    ·
     obtain ⟨tb, toff, ha4, u0⟩ := (HXP.out _ hbq).str hjl
     have Htk : Hid (putAll (.int .i64 (k : Nat)) (s3.take (j + 1)) M = mput (putAll (.int .i64 (k : Nat)) (s3.take j) M) s3[j] (.int .i64 (k : Nat))) := by show _ = _; rw [List.take_succ_eq_append_getElem hjl, putAll_snoc]
     have Ha4 := Lib.hid ha4
     rw [ha4]
     clear ha4
     generalize s3[j] = y at *
     go_wp2_with (at_mapUpdate; refine wpList_mapUpdate_box rfl _ _ _ 140 rfl 9 3 Tryz.underlying140 Tryz.underlying9 w.heap.size _ rfl hMq y rfl (.int .i64 (k : Nat)) rfl ?_; intro w5 hM5 hg5 hs5)
     have hb5 := hbq.grown hg5 hbq.size (fun j hj => by have := Option.some.inj hj; omega)
     rw [← Htk.out] at hM5
     clear hMq hbq hg5 hs5 u0
     rw [← Ha4.out]
     go_roundg (s3.length - (j + 1))
     case measure => have := hgj.out; omega
     case rel => exact ⟨j + 1, by go_num, by omega, rfl, hM5, hb5⟩
    ·
     obtain rfl : j = s3.length := by omega
     rw [List.take_length, ← Hsu.out] at hMq
     go_wp2_with fail
     rw [← Ha.out]
     go_roundg (p.length - (k + 1))
     case measure => have := hgk.out; omega
     case rel => exact ⟨k + 1, by go_num, by omega, rfl, hMq, hbq⟩
  ·
   obtain rfl : k = p.length := by omega
   rw [← HR.out] at hM
   go_wp2_with fail
   go_ret
   exact ⟨_, rfl, Nat.le_refl _, hM, hb⟩
/-- The talks that are in no session. -/
def missL (g : Grd) (p : List Ses) : List ByteArray := (g.talks.filter (fun t => !inP p t.paper)).map (·.paper)
def missTo (g : Grd) (p : List Ses) (k : Nat) : List ByteArray := ((g.talks.take k).filter (fun t => !inP p t.paper)).map (·.paper)
theorem missTo_succ {g : Grd} {p : List Ses} {k : Nat} (h : k < g.talks.length) : missTo g p (k + 1) = missTo g p k ++ (if inP p g.talks[k].paper = true then [] else [g.talks[k].paper]) := by
 unfold missTo
 rw [List.take_succ_eq_append_getElem h, List.filter_append, List.map_append]
 congr 1
 cases e : inP p g.talks[k].paper <;> simp [e]
theorem missTo_len (g : Grd) (p : List Ses) (k : Nat) : (missTo g p k).length ≤ g.talks.length := by
 unfold missTo
 rw [List.length_map]
 have h1 := List.length_filter_le (fun t : Tlk => !inP p t.paper) (g.talks.take k)
 rw [List.length_take] at h1
 omega
set_option maxRecDepth 100000 in
set_option maxHeartbeats 4000000 in
theorem missing_any (g : Grd) (fb br bs bt bb : Nat) (p : List Ses) (pa : Option Addr) (pc : Nat) (w : World) (hF : FieldAt g fb br bs bt bb w) (hg : GRd w g) (hz : GSm g) (hp : PRg w pa p) (hpl : p.length ≤ 1000000) (hpo : ∀ s ∈ p, SesOk s) :
  Calls Tryz.prog 98 #[.pointer (some ⟨fb, 0, none⟩), .slice pa p.length pc] w (GivesOwn 9 (missL g p) w) := by
 have HSO := Lib.hid (sessionOf_any p pa pc w hp hpl (fun s hs => (hpo s hs).2.2.1))
 have HF := Lib.hid (fun W (h : Below w.heap.size w W) => hF.below h)
 have HG := Lib.hid (fun W (h : Below w.heap.size w W) => hg.below h)
 have HR : Hid (missL g p = missTo g p g.talks.length) := by show _ = _; unfold missTo; rw [List.take_length]; rfl
 have HL := Lib.hid (missTo_len g p)
 have hn := hz.talks
 generalize missL g p = R at *
 clear hF hg hz hp hpo
 go_enter Tryz.func98, Tryz.ntmps98
 go_wp2_with fail
 refine HSO.out.mono ?_
 rintro e w1 ⟨bm, rfl, hbm, hM, hb1⟩
 have HM := Lib.hid (fun W (h : Below w1.heap.size w1 W) => hM.below h)
 have hf2 := (HF.out _ hb1).box.cell 2
 simp at hf2
 clear HSO hM
 go_wp2_with fail
 clear hf2
 go_loopg [6, 19] g.talks.length (fun gk v' iv wr => ∃ (k : Nat) (v : Value), v = v' ∧ iv = .int .i64 k ∧ k ≤ g.talks.length ∧ Hid (gk = g.talks.length - k) ∧ Own w1.heap.size 9 wr v (missTo g p k) ∧ Below w1.heap.size w1 wr)
 case atStart => exact ⟨0, _, rfl, rfl, by omega, rfl, Own.nil _ _ _, Below.refl _ _⟩
 case round =>
  obtain ⟨k, v, rfl, rfl, hk, hgk, hown, hb⟩ := hrel
  by_cases hlt : k < g.talks.length
  ·
   obtain ⟨b, off, ha, c0, c1, c2, c3⟩ := (HG.out _ (below_next hb1 hb)).talks.tlkC hlt
   have Hsu := Lib.hid (missTo_succ (p := p) hlt)
   have hll := HL.out k
   generalize missTo g p k = acc at *
   generalize g.talks[k] = x at *
   obtain ⟨t1, t2, t3, t4, t5, t6, t7, t8⟩ := x
   simp only at c0 c1 c2 c3 Hsu
   have Ha := Lib.hid ha
   rw [ha]
   clear ha
   go_upto_region 6 with (fail)
   have hT1 := Box.new wr 60 #[.string t1, .slice t5 t2.length t6, .slice t7 t3.length t8, .int .i64 t4]
   have hb2 := hb.alloc hb.size (.cells #[.string t1, .slice t5 t2.length t6, .slice t7 t3.length t8, .int .i64 t4] 60)
   have hown2 := hown.alloc (.cells #[.string t1, .slice t5 t2.length t6, .slice t7 t3.length t8, .int .i64 t4] 60)
   clear hb hown c0 c1 c2 c3
   generalize wr.alloc (.cells #[.string t1, .slice t5 t2.length t6, .slice t7 t3.length t8, .int .i64 t4] 60) = w2 at *
   generalize wr.heap.size = n2 at *
   have hlk := lookSes (HM.out _ hb2) t1
   generalize sesAtV p t1 = sv at *
   have hT1_l := hT1.lt; have hT1_0 := hT1.cell 0; have hT1_1 := hT1.cell 1; have hT1_2 := hT1.cell 2; have hT1_3 := hT1.cell 3; simp at hT1_0 hT1_1 hT1_2 hT1_3
   cases hib : inP p t1
   ·
    rw [hib] at hlk
    have Hs2 : Hid (missTo g p (k + 1) = acc ++ [t1]) := by show _ = _; rw [Hsu.out, hib]; rfl
    clear hib Hsu
    have hown3 := hown2.alloc (.cells #[.string t1] 9)
    have hbo := Box.new w2 9 #[.string t1]
    have hb3 := hb2.alloc hb2.size (.cells #[.string t1] 9)
    have hol := hown3.lt
    have hbz := hb2.size
    go_upto_region 9 with (at_builtin; refine wpList_append_lie (α := ByteArray) rfl _ _ 57 rfl 9 16 (.string ⟨#[]⟩) Tryz.underlying57 Tryz.infoString rfl _ acc rfl hown3 t1 _ rfl hbo (by omega) (by omega) (by simp; omega) ?_; intro g9 cap9 w9 hown9 hg9 hat9)
    clear hT1_l hT1_0 hT1_1 hT1_2 hT1_3
    have hb9 := hb3.grown hg9 (by have := hb3.size; omega) (fun j hj => by have := (hol j hj).1; omega)
    clear hlk hown2 hb2 hown3 hbo hb3 hol hbz hg9 hat9 hT1
    rw [← Hs2.out] at hown9
    go_wp2_with fail
    rw [← Ha.out]
    go_roundg (g.talks.length - (k + 1))
    case measure => have := hgk.out; omega
    case rel => exact ⟨k + 1, _, rfl, by go_num, by omega, rfl, hown9, hb9⟩
   ·
    rw [hib] at hlk
    have Hs2 : Hid (missTo g p (k + 1) = acc) := by show _ = _; rw [Hsu.out, hib, if_pos rfl, List.append_nil]
    clear hib Hsu
    go_wp2_with fail
    rw [← Ha.out]
    go_roundg (g.talks.length - (k + 1))
    case measure => have := hgk.out; omega
    case rel => exact ⟨k + 1, _, rfl, by go_num, by omega, rfl, (by rw [Hs2.out]; exact hown2), hb2⟩
  ·
   obtain rfl : k = g.talks.length := by omega
   rw [← HR.out] at hown
   go_wp2_with fail
   go_ret
   exact ⟨_, rfl, hown.mono hb1.size, below_next hb1 hb⟩
theorem form_of {g : Grd} {p : List Ses} (h : progFault g p = 0) : firstErr (sesE g p) p.length = 0 := by
 unfold progFault at h
 split at h
 ·
  exact absurd h (by decide)
 split at h
 ·
  next h2 => exact absurd h h2
 next h2 => exact Classical.not_not.1 h2
theorem both_nd {g : Grd} {p : List Ses} (h : bothF g p = 0) : GNd g := gnd_of (both_ok h).1
theorem both_form {g : Grd} {p : List Ses} (h : bothF g p = 0) : ∀ s ∈ p, (slotOf g s.slot).isSome = true ∧ ∀ x ∈ s.papers, (talkOf g x).isSome = true := form_ok (form_of (both_ok h).2)
end Go.Proofs.YtldgphhiajhfhaaGreatDoor
