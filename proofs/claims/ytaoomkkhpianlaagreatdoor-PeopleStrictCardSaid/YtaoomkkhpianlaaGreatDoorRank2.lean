/- Where a paper is among those that a person marked: Rank, RankOf. -/
import Derived.Test.YtaoomkkhpianlaaGreatDoorRank1
import Derived.Test.YtaoomkkhpianlaaGreatDoorKap4
namespace Go.Proofs.YtaoomkkhpianlaaGreatDoor
open Go.RowKit Go.Sort
set_option linter.unusedVariables false
set_option linter.unusedSimpArgs false

theorem MBox.len {w : World} {b : Nat} {l : List (ByteArray × Value)} (h : MBox w b l) {P : Program} {t kt et : TypeId} (ht : P.underlying t = some (.map kt et)) (ty : TypeId) : (Builtin.len_ #[t] ty #[.map (some b)]).run P w = .ok (.int .i64 (l.length : Nat)) w := by
  obtain ⟨es, clock, hb, he, _⟩ := h
  have e : es.size = l.length := by
    have := congrArg List.length he
    simpa using this
  rw [← e]
  simp [Builtin.len_, run_underlying ht, MapKept.run_getObj_map hb, goInt, Result.andThen]
theorem wpList_len_box {P : Program} {w : World} {ops : Array Oper} {rest : List Oper} {o : Oper} {a : Act} {Q : Exit → Act → World → Prop} (hg : o.guard = none) (m : Operand) (t : TypeId) (hop : o.op = Op.call { callee := Callee.builtin Builtin.len, args := #[m], argTypes := #[t] })
    (k e : TypeId) (ht : P.underlying t = some (.map k e)) (b : Nat) (l : List (ByteArray × Value)) (hm : a.eval m = .map (some b)) (hbox : MBox w b l)
    (hK : wpList P ops Q rest (a.put o.dst (.int .i64 (l.length : Nat))) w) : wpList P ops Q (o :: rest) a w := by
  refine wpList_plain hg fun K' hK' => ?_
  unfold Oper.wp
  simp [execOp, hop, resolve, invoke, builtin, hm, hbox.len ht o.type, Result.andThen]
  exact hK' _ _ hK
/-- The entries that marks make. -/
def ent (m : Mark) : ByteArray × Value := (m.1, .int .i64 m.2.2)
def rkV (sc : Int) (vs : List (ByteArray × Value)) : Int := (vs.map (fun e => match e.2 with | .int _ z => 1 - cmpI z sc | _ => 0)).sum
theorem rkV_ent (sc : Int) (ms : List Mark) : rkV sc (ms.map ent) = rkS sc ms := by unfold rkV rkS; rw [List.map_map]; rfl
theorem rkV_perm {sc : Int} {a b : List (ByteArray × Value)} (h : a.Perm b) : rkV sc a = rkV sc b := perm_sum (h.map _)

set_option maxRecDepth 100000 in
set_option maxHeartbeats 2000000 in
theorem rank_any (l : List Mark) (a : Option Addr) (cap : Nat) (pa p : ByteArray) (w : World) (hs : SA w a l) (hl : l.length ≤ 400) (hks : ∀ x ∈ l, x.1.size ≤ 1000 ∧ x.2.1.size ≤ 1000) :
    Calls Tryz.prog 21 #[.slice a l.length cap, .string pa, .string p] w (Gives (.tuple #[.agg #[.int .i64 (if marksFault l = 0 then rankN l pa p else 0), .int .i64 (if marksFault l = 0 then rankD l pa p else 0)], .int .i64 (if marksFault l = 0 then rankE l pa p else marksFault l)]) w) := by
  generalize hq : (if marksFault l = 0 then rankN l pa p else 0) = qn at *
  generalize hr : (if marksFault l = 0 then rankD l pa p else 0) = qd at *
  generalize hq3 : (if marksFault l = 0 then rankE l pa p else marksFault l) = qe at *
  have HQ := Lib.hid hq
  have HR := Lib.hid hr
  have HE := Lib.hid hq3
  clear hq hr hq3
  go_enter Tryz.func21, Tryz.ntmps21
  go_wp2_with fail
  refine (checked_any l a cap _ (hs.alloc _) (by omega) hks).mono ?_
  rintro e w1 ⟨hb1, h1⟩
  have hz1 := hb1.size
  simp at hz1
  have hR := (Box.new w 30 #[.int .i64 0, .int .i64 0]).below hb1
  have hbw1 : Below w.heap.size w w1 := below_next ((Below.refl _ w).alloc (Nat.le_refl _) _) hb1
  rcases h1 with ⟨h0, rfl⟩ | ⟨h0, sb, rfl, hsh, hsb⟩
  · have h0' : (marksFault l != 0) = true := by simpa using h0
    rw [if_neg h0] at HQ HR HE
    obtain rfl := HQ.out
    obtain rfl := HR.out
    clear h0
    have hR_l := hR.lt; have hR_0 := hR.cell 0; have hR_1 := hR.cell 1; simp at hR_0 hR_1
    have hR_f0 := hR.frozen 0; have hR_f1 := hR.frozen 1
    go_wp2_with fail
    refine bodyPost_ret (v := .tuple #[.agg #[.int .i64 0, .int .i64 0], .int .i64 (marksFault l)]) (by simp only [results, Tryz.results21]; go_simp) rfl ⟨by rw [← HE.out], ?_⟩
    (repeat' (first | exact Below.refl _ _ | assumption | refine Below.setCell ?_ ?_ _ | refine below_drewN ?_ _ | refine Below.drew ?_ | refine Below.alloc ?_ ?_ _ | (with_reducible refine Below.trans ?_ (Below.mono hb ?_)) | (with_reducible refine Below.trans ?_ (Below.mono hb0 ?_)) | (with_reducible refine Below.trans ?_ (Below.mono hb1 ?_)) | (with_reducible refine Below.trans ?_ (Below.mono hb2 ?_)) | (with_reducible refine Below.trans ?_ (Below.mono hb3 ?_)) | (with_reducible refine Below.trans ?_ (Below.mono hb4 ?_)) | (with_reducible refine Below.trans ?_ (Below.mono hb5 ?_)) | (with_reducible refine Below.trans ?_ (Below.mono hb6 ?_)) | (with_reducible refine Below.trans ?_ (Below.mono hb7 ?_)) | (with_reducible refine Below.trans ?_ (Below.mono hb8 ?_)) | (with_reducible refine Below.trans ?_ (Below.mono hb9 ?_)) | (with_reducible refine Below.trans ?_ (Below.mono hb10 ?_)) | (with_reducible refine Below.trans ?_ (Below.mono hb11 ?_)) | (with_reducible refine Below.trans ?_ (Below.mono hb12 ?_)) | (with_reducible refine Below.trans ?_ (Below.mono hb13 ?_)) | (with_reducible refine Below.trans ?_ (Below.mono hb14 ?_)) | (with_reducible refine Below.trans ?_ (Below.mono hb15 ?_)) | omega | (simp; done) | (simp; omega)))
  · rw [if_pos h0] at HQ HR HE
    obtain ⟨b1, b2, base, a', cap', es1, es2, hst, hsa'⟩ := hsh
    have H0 := Lib.hid h0
    have hok := fault_scores h0
    clear h0 hb1
    go_wp2_with fail
    refine (scoresP_any sb b1 b2 base a' cap' l es1 es2 pa _ hst (by omega)).mono ?_
    rintro e w2 ⟨rfl, hMA, hb2⟩
    have hR2 := hR.below hb2
    have hz2 := hb2.size
    have hbw2 := below_next hbw1 hb2
    have hA2 := hMA.lt
    clear hst hR hb2
    generalize w1.heap.size = bA at *
    have hlk := MBox.look (P := Tryz.prog) hMA Tryz.underlying110 Tryz.underlying9 (.int .i64 0) (fun w => Tryz.zeroValue3 w) p true
    rw [looked_sc H0.out pa p] at hlk
    have Hes := Lib.hid (show scE (sel (fun x => x.2.1) pa l) = (sel (fun x => x.2.1) pa l).map ent from scE_map H0.out pa)
    have Hnd := Lib.hid (scE_nodup (sel (fun x => x.2.1) pa l))
    unfold rankN at HQ
    unfold rankD at HR
    unfold rankE at HE
    unfold scVal at hlk
    cases hsc : scOf l p pa with
    | none =>
      rw [hsc] at HQ HR HE hlk
      simp only at HQ HR HE
      simp only [Option.getD_none, Option.isSome_none] at hlk
      obtain rfl := HQ.out
      obtain rfl := HR.out
      obtain rfl := HE.out
      have hR2_l := hR2.lt; have hR2_0 := hR2.cell 0; have hR2_1 := hR2.cell 1; simp at hR2_0 hR2_1
      have hR2_f0 := hR2.frozen 0; have hR2_f1 := hR2.frozen 1
      go_wp2_with fail
      refine bodyPost_ret (v := .tuple #[.agg #[.int .i64 0, .int .i64 0], .int .i64 8]) (by simp only [results, Tryz.results21]; go_simp) rfl ⟨by rfl, ?_⟩
      (repeat' (first | exact Below.refl _ _ | assumption | refine Below.setCell ?_ ?_ _ | refine below_drewN ?_ _ | refine Below.drew ?_ | refine Below.alloc ?_ ?_ _ | (with_reducible refine Below.trans ?_ (Below.mono hb ?_)) | (with_reducible refine Below.trans ?_ (Below.mono hb0 ?_)) | (with_reducible refine Below.trans ?_ (Below.mono hb1 ?_)) | (with_reducible refine Below.trans ?_ (Below.mono hb2 ?_)) | (with_reducible refine Below.trans ?_ (Below.mono hb3 ?_)) | (with_reducible refine Below.trans ?_ (Below.mono hb4 ?_)) | (with_reducible refine Below.trans ?_ (Below.mono hb5 ?_)) | (with_reducible refine Below.trans ?_ (Below.mono hb6 ?_)) | (with_reducible refine Below.trans ?_ (Below.mono hb7 ?_)) | (with_reducible refine Below.trans ?_ (Below.mono hb8 ?_)) | (with_reducible refine Below.trans ?_ (Below.mono hb9 ?_)) | (with_reducible refine Below.trans ?_ (Below.mono hb10 ?_)) | (with_reducible refine Below.trans ?_ (Below.mono hb11 ?_)) | (with_reducible refine Below.trans ?_ (Below.mono hb12 ?_)) | (with_reducible refine Below.trans ?_ (Below.mono hb13 ?_)) | (with_reducible refine Below.trans ?_ (Below.mono hb14 ?_)) | (with_reducible refine Below.trans ?_ (Below.mono hb15 ?_)) | omega | (simp; done) | (simp; omega)))
    | some sc =>
      rw [hsc] at HQ HR HE hlk
      simp only at HQ HR HE
      simp only [Option.getD_some, Option.isSome_some] at hlk
      obtain rfl := HE.out
      have hrl := rest_law H0.out hsc
      have hscb := scOf_bd hok hsc
      have hrb := rkS_bd sc (rest l pa p)
      have hrn := rest_len l pa p
      clear hsc
      generalize rest l pa p = rs at *
      have hmsl := sel_len (fun x => x.2.1) pa l
      have hokm : okScores (sel (fun x => x.2.1) pa l) := okScores_sel hok
      generalize sel (fun x => x.2.1) pa l = ms at *
      have hesl : (scE ms).length = ms.length := by rw [Hes.out, List.length_map]
      by_cases hrs : rs = []
      · rw [if_pos hrs] at HQ HR
        obtain rfl := HQ.out
        obtain rfl := HR.out
        have hl1 : (scE ms).length = 1 := by rw [hesl, hrl.2, hrs]; rfl
        have hl2 : ((((scE ms).length : Nat) : Int) == 1) = true := by rw [hl1]; rfl
        generalize scE ms = es at *
        clear hrs hl1 hrl hesl
        have hR2_l := hR2.lt; have hR2_0 := hR2.cell 0; have hR2_1 := hR2.cell 1; simp at hR2_0 hR2_1
        have hR2_f0 := hR2.frozen 0; have hR2_f1 := hR2.frozen 1
        go_wp2_with (at_len; refine wpList_len_box rfl _ 110 rfl _ _ Tryz.underlying110 bA es rfl hMA ?_)
        go_wp2_with fail
        refine bodyPost_ret (v := .tuple #[.agg #[.int .i64 1, .int .i64 2], .int .i64 0]) (by simp only [results, Tryz.results21]; go_simp) rfl ⟨by rfl, ?_⟩
        (repeat' (first | exact Below.refl _ _ | assumption | refine Below.setCell ?_ ?_ _ | refine below_drewN ?_ _ | refine Below.drew ?_ | refine Below.alloc ?_ ?_ _ | (with_reducible refine Below.trans ?_ (Below.mono hb ?_)) | (with_reducible refine Below.trans ?_ (Below.mono hb0 ?_)) | (with_reducible refine Below.trans ?_ (Below.mono hb1 ?_)) | (with_reducible refine Below.trans ?_ (Below.mono hb2 ?_)) | (with_reducible refine Below.trans ?_ (Below.mono hb3 ?_)) | (with_reducible refine Below.trans ?_ (Below.mono hb4 ?_)) | (with_reducible refine Below.trans ?_ (Below.mono hb5 ?_)) | (with_reducible refine Below.trans ?_ (Below.mono hb6 ?_)) | (with_reducible refine Below.trans ?_ (Below.mono hb7 ?_)) | (with_reducible refine Below.trans ?_ (Below.mono hb8 ?_)) | (with_reducible refine Below.trans ?_ (Below.mono hb9 ?_)) | (with_reducible refine Below.trans ?_ (Below.mono hb10 ?_)) | (with_reducible refine Below.trans ?_ (Below.mono hb11 ?_)) | (with_reducible refine Below.trans ?_ (Below.mono hb12 ?_)) | (with_reducible refine Below.trans ?_ (Below.mono hb13 ?_)) | (with_reducible refine Below.trans ?_ (Below.mono hb14 ?_)) | (with_reducible refine Below.trans ?_ (Below.mono hb15 ?_)) | omega | (simp; done) | (simp; omega)))
      · rw [if_neg hrs] at HQ HR
        have hrp := List.length_pos_iff.2 hrs
        have hl2 : ((((scE ms).length : Nat) : Int) == 1) = false := by simp; omega
        have Hrv : Hid (rkV sc (scE ms) = rkS sc rs + 1) := by show _ = _; rw [Hes.out, rkV_ent]; exact hrl.1
        have Hin : Hid (∀ e ∈ scE ms, ∃ m ∈ ms, e = ent m) := fun e he => by
          rw [Hes.out, List.mem_map] at he
          obtain ⟨m, hm, rfl⟩ := he; exact ⟨m, hm, rfl⟩
        have hms2 : ms.length = rs.length + 1 := hrl.2
        generalize scE ms = es at *
        clear hrs hrl Hes Hnd
        have hes2a : es.length ≤ rs.length + 1 := by omega
        have hes2b : rs.length + 1 ≤ es.length := by omega
        have hms2a : ms.length ≤ rs.length + 1 := by omega
        clear hms2 hesl
        go_wp2_with (first | (at_len; refine wpList_len_box rfl _ 110 rfl _ _ Tryz.underlying110 bA es rfl hMA ?_) | (refine wpList_range_box rfl _ 110 rfl 9 3 Tryz.underlying110 bA es rfl hMA ?_; intro o' hI))
        go_frame
        generalize hro : w2.heap.size = ri at *
        have hb5 := hbw2.alloc (by have := hbw2.size; exact this) o'
        have hR5 := hR2.alloc o'
        have hz5 : ri < (w2.alloc o').heap.size := by simp; omega
        have hri : w.heap.size < ri ∧ bA < ri := by have := hR2.lt; omega
        generalize w2.alloc o' = W5 at *
        clear hR2 hbw2 hro
        go_loopg [13] es.length (fun gk nv wr => ∃ (left : List (ByteArray × Value)) (acc : Int), Hid (gk = left.length) ∧ IBox wr ri bA es left ∧ Hid (∀ p ∈ left, p ∈ es) ∧ nv = .int .i64 (acc - 1) ∧ Hid (acc + rkV sc left = rkV sc es) ∧ 0 ≤ acc ∧ acc ≤ 2 * ((es.length : Int) - left.length) ∧ left.length ≤ es.length ∧ Box wr w.heap.size 30 #[.int .i64 0, .int .i64 0] ∧ Below w.heap.size w wr ∧ ri < wr.heap.size)
        case atStart => exact ⟨es, 0, rfl, hI, fun p hp => hp, rfl, Int.zero_add _, by omega, by omega, Nat.le_refl _, hR5, hb5, hz5⟩
        clear hI hb5 hR5 hz5
        obtain ⟨left, acc, hgk, hI, hsub, rfl, hsum, ha0, ha1, hll, hR, hb, hz⟩ := hrel
        go_wp2_with ((refine wpList_next_box rfl _ rfl ri bA es left rfl hI ?_ ?_))
        rotate_left 1
        · intro p0 kk v q w' hleft hI2 hent hg hsz
          obtain ⟨m, hm, he⟩ := Hin.out (kk, v) (hsub.out _ (by rw [hleft]; simp))
          obtain ⟨m1, m2, z⟩ := m
          have hzb := hokm _ hm
          simp only at hzb
          obtain ⟨rfl, rfl⟩ : kk = m1 ∧ v = .int .i64 z := by unfold ent at he; simpa using he
          have hb2 : Below w.heap.size w w' := hb.grown hg (by omega) (by rintro j hj; cases hj; omega)
          have hR2 := hR.grown hg (by simp <;> omega)
          have Hsub3 : Hid (∀ p ∈ p0 ++ q, p ∈ es) := fun p hp => hsub.out p (by rw [hleft]; simp only [List.mem_append, List.mem_cons] at hp ⊢; exact hp.elim .inl (fun h => .inr (.inr h)))
          have hlen2 : (p0 ++ q).length + 1 = left.length := by rw [hleft]; simp; omega
          have Hsum2 : Hid (acc + (1 - cmpI z sc) + rkV sc (p0 ++ q) = rkV sc es) := by
            show _ = _
            rw [← hsum.out, hleft]
            unfold rkV
            rw [List.map_append, List.map_append, List.sum_append, List.sum_append, List.map_cons, List.sum_cons]
            simp only
            omega
          have hcb := cmpI_bd z sc
          have HC := Lib.hid (fun W => Tryz.cmp_Compare_int z sc W)
          rw [show Lib.compareInt z sc = cmpI z sc from rfl] at HC
          generalize cmpI z sc = cz at *
          generalize hpq : p0 ++ q = pq at *
          clear hleft he hm hb hR hI hsub hsum hpq
          go_wp2_with fail
          refine (HC.out _).mono ?_
          rintro e w'' ⟨rfl, rfl⟩
          go_wp2_with fail
          go_roundg pq.length
          case measure => have := hgk.out; omega
          case rel => exact ⟨pq, acc + (1 - cz), rfl, hI2, Hsub3, by congr 1; omega, Hsum2, by omega, by omega, by omega, hR2, hb2, by omega⟩
        intro hnil
        have hacc : acc = rkS sc rs + 1 := by have := hsum.out; rw [hnil] at this; rw [← Hrv.out, ← this]; simp [rkV]
        have hM := hI.mbox
        subst hacc
        have hes3 : (((es.length : Nat) : Int) - 1) = (rs.length : Nat) := by omega
        have HL := Lib.hid (fun W => lowest_any (rkS sc rs) (2 * (rs.length : Nat)) W (by omega) (by omega) (by omega))
        unfold low at HL
        rw [HQ.out, HR.out] at HL
        have hw1 : IntKind.i64.wrap (((es.length : Nat) : Int) - 1) = (rs.length : Nat) := by rw [hes3]; exact IntWalk.i64_in _ (by omega)
        have hw2 : IntKind.i64.wrap (2 * ((rs.length : Nat) : Int)) = 2 * ((rs.length : Nat) : Int) := IntWalk.i64_in _ (by omega)
        have hac : rkS sc rs + 1 - 1 = rkS sc rs := by omega
        rw [hac]
        generalize rkS sc rs = rk at *
        clear hnil hI hsub hsum Hin hgk hes3 ha0 ha1 hac hl2
        go_wp2_with (at_len; refine wpList_len_box rfl _ 110 rfl _ _ Tryz.underlying110 bA es rfl hM ?_)
        go_wp2_with fail
        refine (HL.out _).mono ?_
        rintro e wo ⟨rfl, hbo⟩
        have hRo := hR.below hbo
        have hbwo := below_next hb hbo
        have hRo_l := hRo.lt; have hRo_0 := hRo.cell 0; have hRo_1 := hRo.cell 1; simp at hRo_0 hRo_1
        have hRo_f0 := hRo.frozen 0; have hRo_f1 := hRo.frozen 1
        go_wp2_with fail
        refine bodyPost_ret (v := .tuple #[.agg #[.int .i64 qn, .int .i64 qd], .int .i64 0]) (by simp only [results, Tryz.results21]; go_simp) rfl ⟨by rfl, ?_⟩
        (repeat' (first | exact Below.refl _ _ | assumption | refine Below.setCell ?_ ?_ _ | refine below_drewN ?_ _ | refine Below.drew ?_ | refine Below.alloc ?_ ?_ _ | (with_reducible refine Below.trans ?_ (Below.mono hb ?_)) | (with_reducible refine Below.trans ?_ (Below.mono hb0 ?_)) | (with_reducible refine Below.trans ?_ (Below.mono hb1 ?_)) | (with_reducible refine Below.trans ?_ (Below.mono hb2 ?_)) | (with_reducible refine Below.trans ?_ (Below.mono hb3 ?_)) | (with_reducible refine Below.trans ?_ (Below.mono hb4 ?_)) | (with_reducible refine Below.trans ?_ (Below.mono hb5 ?_)) | (with_reducible refine Below.trans ?_ (Below.mono hb6 ?_)) | (with_reducible refine Below.trans ?_ (Below.mono hb7 ?_)) | (with_reducible refine Below.trans ?_ (Below.mono hb8 ?_)) | (with_reducible refine Below.trans ?_ (Below.mono hb9 ?_)) | (with_reducible refine Below.trans ?_ (Below.mono hb10 ?_)) | (with_reducible refine Below.trans ?_ (Below.mono hb11 ?_)) | (with_reducible refine Below.trans ?_ (Below.mono hb12 ?_)) | (with_reducible refine Below.trans ?_ (Below.mono hb13 ?_)) | (with_reducible refine Below.trans ?_ (Below.mono hb14 ?_)) | (with_reducible refine Below.trans ?_ (Below.mono hb15 ?_)) | omega | (simp; done) | (simp; omega)))

set_option maxRecDepth 100000 in
set_option maxHeartbeats 2000000 in
theorem rankOf_any (l : List Mark) (a : Option Addr) (cap : Nat) (pa p : ByteArray) (w : World) (hs : SA w a l) (hl : l.length ≤ 400) (h0 : marksFault l = 0) :
    Calls Tryz.prog 27 #[.slice a l.length cap, .string pa, .string p] w (Gives (.tuple #[.agg #[.int .i64 (rankN l pa p), .int .i64 (rankD l pa p)], .int .i64 (rankE l pa p)]) w) := by
  generalize hq : rankN l pa p = qn at *
  generalize hr : rankD l pa p = qd at *
  generalize hq3 : rankE l pa p = qe at *
  have HQ := Lib.hid hq
  have HR := Lib.hid hr
  have HE := Lib.hid hq3
  have hok := fault_scores h0
  clear hq hr hq3
  unfold rankN at HQ
  unfold rankD at HR
  unfold rankE at HE
  have HS := Lib.hid (fun W (h : SA W a l) => scoreOf_any l a cap p pa W h (by omega))
  unfold scVal at HS
  have hR := Box.new w 30 #[.int .i64 0, .int .i64 0]
  go_enter Tryz.func27, Tryz.ntmps27
  go_wp2_with fail
  cases hsc : scOf l p pa with
  | none =>
    rw [hsc] at HQ HR HE HS
    simp only at HQ HR HE
    simp only [Option.getD_none, Option.isSome_none] at HS
    obtain rfl := HQ.out
    obtain rfl := HR.out
    obtain rfl := HE.out
    refine (HS.out _ (hs.alloc _)).mono ?_
    rintro e w1 ⟨rfl, hb1⟩
    have hR1 := hR.below hb1
    have hbw1 : Below w.heap.size w w1 := below_next ((Below.refl _ w).alloc (Nat.le_refl _) _) hb1
    clear hb1
    have hR1_l := hR1.lt; have hR1_0 := hR1.cell 0; have hR1_1 := hR1.cell 1; simp at hR1_0 hR1_1
    have hR1_f0 := hR1.frozen 0; have hR1_f1 := hR1.frozen 1
    go_wp2_with fail
    refine bodyPost_ret (v := .tuple #[.agg #[.int .i64 0, .int .i64 0], .int .i64 8]) (by simp only [results, Tryz.results27]; go_simp) rfl ⟨by rfl, ?_⟩
    (repeat' (first | exact Below.refl _ _ | assumption | refine Below.setCell ?_ ?_ _ | refine below_drewN ?_ _ | refine Below.drew ?_ | refine Below.alloc ?_ ?_ _ | (with_reducible refine Below.trans ?_ (Below.mono hb ?_)) | (with_reducible refine Below.trans ?_ (Below.mono hb0 ?_)) | (with_reducible refine Below.trans ?_ (Below.mono hb1 ?_)) | (with_reducible refine Below.trans ?_ (Below.mono hb2 ?_)) | (with_reducible refine Below.trans ?_ (Below.mono hb3 ?_)) | (with_reducible refine Below.trans ?_ (Below.mono hb4 ?_)) | (with_reducible refine Below.trans ?_ (Below.mono hb5 ?_)) | (with_reducible refine Below.trans ?_ (Below.mono hb6 ?_)) | (with_reducible refine Below.trans ?_ (Below.mono hb7 ?_)) | (with_reducible refine Below.trans ?_ (Below.mono hb8 ?_)) | (with_reducible refine Below.trans ?_ (Below.mono hb9 ?_)) | (with_reducible refine Below.trans ?_ (Below.mono hb10 ?_)) | (with_reducible refine Below.trans ?_ (Below.mono hb11 ?_)) | (with_reducible refine Below.trans ?_ (Below.mono hb12 ?_)) | (with_reducible refine Below.trans ?_ (Below.mono hb13 ?_)) | (with_reducible refine Below.trans ?_ (Below.mono hb14 ?_)) | (with_reducible refine Below.trans ?_ (Below.mono hb15 ?_)) | omega | (simp; done) | (simp; omega)))
  | some sc =>
    rw [hsc] at HQ HR HE HS
    simp only at HQ HR HE
    simp only [Option.getD_some, Option.isSome_some] at HS
    obtain rfl := HE.out
    have hscb := scOf_bd hok hsc
    clear hsc
    refine (HS.out _ (hs.alloc _)).mono ?_
    rintro e w1 ⟨rfl, hb1⟩
    have hR1 := hR.below hb1
    have hbw1 : Below w.heap.size w w1 := below_next ((Below.refl _ w).alloc (Nat.le_refl _) _) hb1
    clear hR hb1
    go_wp2_with fail
    go_loopg [10, 11, 26] l.length (fun gk nv ov i wr => ∃ k : Nat, i = .int .i64 k ∧ k ≤ l.length ∧ Hid (gk = l.length - k) ∧ nv = .int .i64 (rkS sc (rest (l.take k) pa p)) ∧ ov = .int .i64 ((rest (l.take k) pa p).length : Nat) ∧ Box wr w.heap.size 30 #[.int .i64 0, .int .i64 0] ∧ Below w.heap.size w wr)
    case atStart => exact ⟨0, rfl, by omega, rfl, rfl, rfl, hR1, hbw1⟩
    clear hR1 hbw1
    obtain ⟨k, rfl, hk, hgk, rfl, rfl, hR, hb⟩ := hrel
    by_cases hlt : k < l.length
    · obtain ⟨mb, moff, ha, c0, c1, c2⟩ := (hs.below hb).mark hlt
      have htake := List.take_succ_eq_append_getElem hlt
      have Hsn := Lib.hid (rest_snoc (l.take k) pa p l[k])
      rw [← htake] at Hsn
      have hrb := rkS_bd sc (rest (l.take k) pa p)
      have hrl := rest_len (l.take k) pa p
      rw [List.length_take] at hrl
      have hxs := hok l[k] (List.getElem_mem hlt)
      have hzr := hb.size
      rw [ha]
      generalize hx : l[k] = x at *
      obtain ⟨x1, x2, x3⟩ := x
      simp only at c0 c1 c2 Hsn hxs
      have Hrs := Lib.hid (rkS_snoc sc (rest (l.take k) pa p) (x1, x2, x3))
      simp only at Hrs
      clear hx htake
      have hcb := cmpI_bd x3 sc
      have HC := Lib.hid (fun W => Tryz.cmp_Compare_int x3 sc W)
      rw [show Lib.compareInt x3 sc = cmpI x3 sc from rfl] at HC
      generalize cmpI x3 sc = cz at *
      generalize rest (l.take k) pa p = rs at *
      generalize hrk : rkS sc rs = rk at *
      have Hrk := Lib.hid hrk
      clear hrk
      have hbt : Below w.heap.size w (wr.alloc (.cells #[.string x1, .string x2, .int .i64 x3] 54)) := hb.alloc hzr _
      have hRt := hR.alloc (.cells #[.string x1, .string x2, .int .i64 x3] 54)
      by_cases hp2 : x2 = pa
      · by_cases hp1 : x1 = p
        · have e1 := tl_eq' hp2
          have e3 : x2.toList = pa.toList := by rw [hp2]
          have e2 := tl_eq hp1
          rw [if_neg (by simp [hp1])] at Hsn
          clear hp1 hp2 HC
          go_wp2_with fail
          rw [← ha]
          go_roundg (l.length - (k + 1))
          case measure => have := hgk.out; omega
          case rel => exact ⟨k + 1, by go_num, by omega, rfl, by rw [Hsn.out, Hrk.out], by rw [Hsn.out], hRt, hbt⟩
        · have e1 := tl_eq' hp2
          have e3 : x2.toList = pa.toList := by rw [hp2]
          have e2 := tl_ne hp1
          rw [if_pos ⟨hp2, hp1⟩] at Hsn
          clear hp1 hp2
          go_wp2_with fail
          refine (HC.out _).mono ?_
          rintro e w'' ⟨rfl, rfl⟩
          go_wp2_with fail
          rw [← ha]
          go_roundg (l.length - (k + 1))
          case measure => have := hgk.out; omega
          case rel => exact ⟨k + 1, by go_num, by omega, rfl, by rw [Hsn.out, Hrs.out], by rw [Hsn.out, List.length_append]; go_num, hRt, hbt⟩
      · have e1 := tl_ne' hp2
        have e3 : ¬ x2.toList = pa.toList := fun h => hp2 (toList_inj.1 h)
        rw [if_neg (by simp [hp2])] at Hsn
        clear hp2 HC
        go_wp2_with fail
        rw [← ha]
        go_roundg (l.length - (k + 1))
        case measure => have := hgk.out; omega
        case rel => exact ⟨k + 1, by go_num, by omega, rfl, by rw [Hsn.out, Hrk.out], by rw [Hsn.out], hRt, hbt⟩
    · obtain rfl : k = l.length := by omega
      rw [List.take_length]
      have hrb := rkS_bd sc (rest l pa p)
      have hrn := rest_len l pa p
      generalize rest l pa p = rs at *
      clear hlt
      by_cases hrs : rs = []
      · subst hrs
        rw [if_pos rfl] at HQ HR
        obtain rfl := HQ.out
        obtain rfl := HR.out
        have hR_l := hR.lt; have hR_0 := hR.cell 0; have hR_1 := hR.cell 1; simp at hR_0 hR_1
        have hR_f0 := hR.frozen 0; have hR_f1 := hR.frozen 1
        go_wp2_with fail
        refine bodyPost_ret (v := .tuple #[.agg #[.int .i64 1, .int .i64 2], .int .i64 0]) (by simp only [results, Tryz.results27]; go_simp) rfl ⟨by rfl, ?_⟩
        (repeat' (first | exact Below.refl _ _ | assumption | refine Below.setCell ?_ ?_ _ | refine below_drewN ?_ _ | refine Below.drew ?_ | refine Below.alloc ?_ ?_ _ | (with_reducible refine Below.trans ?_ (Below.mono hb ?_)) | (with_reducible refine Below.trans ?_ (Below.mono hb0 ?_)) | (with_reducible refine Below.trans ?_ (Below.mono hb1 ?_)) | (with_reducible refine Below.trans ?_ (Below.mono hb2 ?_)) | (with_reducible refine Below.trans ?_ (Below.mono hb3 ?_)) | (with_reducible refine Below.trans ?_ (Below.mono hb4 ?_)) | (with_reducible refine Below.trans ?_ (Below.mono hb5 ?_)) | (with_reducible refine Below.trans ?_ (Below.mono hb6 ?_)) | (with_reducible refine Below.trans ?_ (Below.mono hb7 ?_)) | (with_reducible refine Below.trans ?_ (Below.mono hb8 ?_)) | (with_reducible refine Below.trans ?_ (Below.mono hb9 ?_)) | (with_reducible refine Below.trans ?_ (Below.mono hb10 ?_)) | (with_reducible refine Below.trans ?_ (Below.mono hb11 ?_)) | (with_reducible refine Below.trans ?_ (Below.mono hb12 ?_)) | (with_reducible refine Below.trans ?_ (Below.mono hb13 ?_)) | (with_reducible refine Below.trans ?_ (Below.mono hb14 ?_)) | (with_reducible refine Below.trans ?_ (Below.mono hb15 ?_)) | omega | (simp; done) | (simp; omega)))
      · rw [if_neg hrs] at HQ HR
        have hrp := List.length_pos_iff.2 hrs
        have hne : ((rs.length : Int) == 0) = false := by simp; omega
        have HL := Lib.hid (fun W => part_any (rkS sc rs) (2 * (rs.length : Nat)) W (by omega) (by omega) (by omega))
        unfold low at HL
        rw [HQ.out, HR.out] at HL
        have hw2 : IntKind.i64.wrap (2 * ((rs.length : Nat) : Int)) = 2 * ((rs.length : Nat) : Int) := IntWalk.i64_in _ (by omega)
        generalize rkS sc rs = rk at *
        clear hrs
        go_wp2_with fail
        refine (HL.out _).mono ?_
        rintro e wo ⟨rfl, hbo⟩
        have hRo := hR.below hbo
        have hbwo := below_next hb hbo
        have hRo_l := hRo.lt; have hRo_0 := hRo.cell 0; have hRo_1 := hRo.cell 1; simp at hRo_0 hRo_1
        have hRo_f0 := hRo.frozen 0; have hRo_f1 := hRo.frozen 1
        go_wp2_with fail
        refine bodyPost_ret (v := .tuple #[.agg #[.int .i64 qn, .int .i64 qd], .int .i64 0]) (by simp only [results, Tryz.results27]; go_simp) rfl ⟨by rfl, ?_⟩
        (repeat' (first | exact Below.refl _ _ | assumption | refine Below.setCell ?_ ?_ _ | refine below_drewN ?_ _ | refine Below.drew ?_ | refine Below.alloc ?_ ?_ _ | (with_reducible refine Below.trans ?_ (Below.mono hb ?_)) | (with_reducible refine Below.trans ?_ (Below.mono hb0 ?_)) | (with_reducible refine Below.trans ?_ (Below.mono hb1 ?_)) | (with_reducible refine Below.trans ?_ (Below.mono hb2 ?_)) | (with_reducible refine Below.trans ?_ (Below.mono hb3 ?_)) | (with_reducible refine Below.trans ?_ (Below.mono hb4 ?_)) | (with_reducible refine Below.trans ?_ (Below.mono hb5 ?_)) | (with_reducible refine Below.trans ?_ (Below.mono hb6 ?_)) | (with_reducible refine Below.trans ?_ (Below.mono hb7 ?_)) | (with_reducible refine Below.trans ?_ (Below.mono hb8 ?_)) | (with_reducible refine Below.trans ?_ (Below.mono hb9 ?_)) | (with_reducible refine Below.trans ?_ (Below.mono hb10 ?_)) | (with_reducible refine Below.trans ?_ (Below.mono hb11 ?_)) | (with_reducible refine Below.trans ?_ (Below.mono hb12 ?_)) | (with_reducible refine Below.trans ?_ (Below.mono hb13 ?_)) | (with_reducible refine Below.trans ?_ (Below.mono hb14 ?_)) | (with_reducible refine Below.trans ?_ (Below.mono hb15 ?_)) | omega | (simp; done) | (simp; omega)))
end Go.Proofs.YtaoomkkhpianlaaGreatDoor
