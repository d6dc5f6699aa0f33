/- Closures that gather what gives authors away: of the program, of the reference. -/
import Derived.Test.YthajoedabjfaaaaGreatDoorMakeGive
import Derived.Test.YthajoedabjfaaaaGreatDoorAuthQ
import Derived.Test.YthajoedabjfaaaaGreatDoorKeep
import Derived.Test.YthajoedabjfaaaaGreatDoorReg
import Derived.Test.YthajoedabjfaaaaGreatDoorRegF
import Derived.Test.YthajoedabjfaaaaGreatDoorStrs
import Derived.Test.YthajoedabjfaaaaGreatDoorWord1
/-! Closures that gather what gives authors away: of the program, of the reference. -/
namespace Go.Proofs.YthajoedabjfaaaaGreatDoor
open Go.RowKit
set_option linter.unusedVariables false
set_option linter.unusedSimpArgs false

/-- A captured list in the box q. -/
structure GvSt (q : Nat) (w : World) (v : Value) (acc : List Gv) : Prop where
  box : Box w q 34 #[v]
  own : Own (q + 1) 42 w v acc
/-- The box and its list's own block. -/
abbrev GvX (q : Nat) (v : Value) (j : Nat) : Prop := j = q ∨ v.ownBlock = some j
/-- The list's block is the old one, or new. -/
abbrev GvN (v v' : Value) (n : Nat) : Prop := ∀ j, v'.ownBlock = some j → v.ownBlock = some j ∨ n ≤ j
section
variable {q : Nat} {v v1 v2 : Value} {acc : List Gv} {w w' w1 w2 : World}
theorem GvSt.below (h : GvSt q w v acc) (k : Below w.heap.size w w') : GvSt q w' v acc := ⟨h.box.below k, h.own.below k⟩
theorem GvN.refl (v : Value) (n : Nat) : GvN v v n := fun j hj => .inl hj
theorem GvN.trans {n m : Nat} (h : GvN v v1 n) (k : GvN v1 v2 m) (hn : n ≤ m) : GvN v v2 n := fun j hj => (k j hj).elim (fun e => h j e) (fun e => .inr (by omega))
theorem kpG (h1 : Kp (GvX q v) w w1) (hn : GvN v v1 w.heap.size) (h2 : Kp (GvX q v1) w1 w2) : Kp (GvX q v) w w2 :=
  ⟨h2.os.trans h1.os, h2.tape.trans h1.tape, h2.output.trans h1.output, Nat.le_trans h1.size h2.size, fun k hk hx =>
    (h2.block k (Nat.lt_of_lt_of_le hk h1.size) (fun e => e.elim (fun e => hx (.inl e)) (fun e => (hn k e).elim (fun e => hx (.inr e)) (fun e => by omega)))).trans (h1.block k hk hx)⟩
theorem GvSt.down {Wf : World} {base : Nat} (h : GvSt q w v acc) (hb : Below base Wf w) (hbq : base ≤ q) (hk : Kp (GvX q v) w w1) : Below base Wf w1 :=
  belowKp hb hk (fun j hj => hj.elim (fun e => by omega) (fun e => by have := (h.own.lt j e).1; omega)) (by have := h.box.lt; omega)
/-- What lies below the box stays. -/
theorem GvSt.not (h : GvSt q w v acc) {b : Nat} (hb : b < q) : ¬ GvX q v b := fun e => e.elim (fun e => by omega) (fun e => by have := (h.own.lt b e).1; omega)
end
theorem addAll_snoc (k : Int) (who : ByteArray) {l : List Spn} {i : Nat} (h : i < l.length) : addAll k who (l.take (i + 1)) = addAll k who (l.take i) ++ [(k, l[i].1, l[i].2, who)] := map_take_snoc _ h
set_option maxRecDepth 100000 in
set_option maxHeartbeats 4000000 in
theorem addP_any (q : Nat) (v : Value) (acc : List Gv) (kind : Int) (who : ByteArray) (la : Option Addr) (lc : Nat) (l : List Spn) (w : World) (h : GvSt q w v acc) (hsa : SA w la l) (hfar : ∀ x : Addr, la = some x → x.block ≠ q ∧ v.ownBlock ≠ some x.block) (hl : acc.length + l.length ≤ 100000000) :
    Calls Tryz.prog 34 #[.int .i64 kind, .string who, .slice la l.length lc, .pointer (some ⟨q, 0, none⟩)] w (fun e w' => e = .returned (.tuple #[]) ∧ ∃ v', GvSt q w' v' (acc ++ addAll kind who l) ∧ Kp (GvX q v) w w' ∧ GvN v v' w.heap.size) := by
  have Hsn := Lib.hid (fun i (h : i < l.length) => addAll_snoc kind who h)
  have Hal := Lib.hid (fun i (h : i ≤ l.length) => show (acc ++ addAll kind who (l.take i)).length = acc.length + i by rw [List.length_append, addAll_len, List.length_take, Nat.min_eq_left h])
  have Hfin : Hid (acc ++ addAll kind who (l.take l.length) = acc ++ addAll kind who l) := by show _ = _; rw [List.take_length]
  have H0 : Hid (acc ++ addAll kind who (l.take 0) = acc) := by show _ = _; simp [addAll]
  have Hfar := Lib.hid hfar
  have H := Lib.hid h
  clear h hfar
  go_enter Tryz.func34, Tryz.ntmps34
  go_wp2_with fail
  go_loopg [11] l.length (fun gk i wr => ∃ (k : Nat) (v' : Value), i = .int .i64 k ∧ k ≤ l.length ∧ Hid (gk = l.length - k) ∧ GvSt q wr v' (acc ++ addAll kind who (l.take k)) ∧ Kp (GvX q v) w wr ∧ Hid (GvN v v' w.heap.size))
  case atStart => exact ⟨0, v, rfl, by omega, rfl, by rw [H0.out]; exact H.out, Kp.refl _ _, GvN.refl _ _⟩
  obtain ⟨k, v', rfl, hk, hgk, hst, hkp, hnw⟩ := hrel
  by_cases hlt : k < l.length
  · obtain ⟨lb, lo, hla, c0, c1⟩ := (hsa.kp hkp (fun x hx _ e => e.elim (Hfar.out x hx).1 (Hfar.out x hx).2)).spn hlt
    have Hs2 := Lib.hid (Hsn.out k hlt)
    have Hla := Lib.hid hla
    have hal := Nat.le_of_eq (Hal.out k (by omega))
    rw [hla]
    clear hla
    have hb0 := hst.box.cell 0
    have hql := hst.box.lt
    have hk1 : (0 : Int) ≤ (k : Int) := by omega
    have hk2 : (k : Int) < (l.length : Int) := by omega
    generalize l[k] = x at *
    obtain ⟨f, t⟩ := x
    simp only at c0 c1
    obtain ⟨A2, hA2⟩ : ∃ A2, acc ++ addAll kind who (l.take (k + 1)) = A2 := ⟨_, rfl⟩
    have HA2 := Lib.hid hA2
    have HA3 := Lib.hid (show (acc ++ addAll kind who (l.take k)) ++ [(kind, f, t, who)] = A2 by rw [← hA2, Hs2.out, List.append_assoc])
    clear hA2 Hs2
    generalize acc ++ addAll kind who (l.take k) = A1 at *
    have hown1 := (hst.own.alloc (.cells #[.int .i64 f, .int .i64 t] 40)).alloc (.cells #[.int .i64 kind, .int .i64 f, .int .i64 t, .string who] 42)
    have hbx1 := (hst.box.alloc (.cells #[.int .i64 f, .int .i64 t] 40))
    have hbx2 := hbx1.alloc (.cells #[.int .i64 kind, .int .i64 f, .int .i64 t, .string who] 42)
    have hbs := Box.new wr 40 #[.int .i64 f, .int .i64 t]
    have hbo := Box.newAt (wr.alloc (.cells #[.int .i64 f, .int .i64 t] 40)) (wr.heap.size + 1) 42 #[.int .i64 kind, .int .i64 f, .int .i64 t, .string who] (by simp)
    have Hol := Lib.hid hst.own.lt
    have hk2' : Kp (GvX q v') wr ((wr.alloc (.cells #[.int .i64 f, .int .i64 t] 40)).alloc (.cells #[.int .i64 kind, .int .i64 f, .int .i64 t, .string who] 42)) := ((Kp.refl _ _).alloc _).alloc _
    have hb1 := hbx1.cell 0
    simp at hb0 hb1
    have hbs_l := hbs.lt; have hbs_0 := hbs.cell 0; have hbs_1 := hbs.cell 1; simp at hbs_0 hbs_1
    clear hst
    go_wp2_with (at_builtin; refine wpList_append_lie (α := Gv) rfl _ _ 34 rfl 42 40 (.agg #[.int .i64 0, .int .i64 0, .int .i64 0, .string ⟨#[]⟩]) Tryz.underlying34 Tryz.infoGv rfl v' A1 rfl hown1 (kind, f, t, who) _ rfl hbo (by omega) (by omega) (by simp; omega) ?_; intro g9 cap9 w9 hown9 hg9 hat9; have hq9 := hbx2.kp ((Kp.refl (fun b => v'.ownBlock = some b) _).grown hg9 (fun j hj => .inl hj)) (fun e => by have := (Hol.out _ e).1; omega); have hfr9 := hq9.frozen 0; have hc9 := hq9.cell 0)
    have hk9 := hk2'.grown hg9 (fun j hj => .inl (.inr hj))
    have hk10 := hk9.setCell (p := ⟨q, 0, none⟩) (.inl (.inl rfl)) (.slice (some ⟨g9, 0, none⟩) (A1.length + 1) cap9)
    have hown10 := hown9.kp ((Kp.refl (fun b => b = q) w9).setCell (p := ⟨q, 0, none⟩) (.inl rfl) (.slice (some ⟨g9, 0, none⟩) (A1.length + 1) cap9)) (fun j hj e => by have := (hown9.lt j hj).1; omega)
    have hq10 := hq9.set 0 (.slice (some ⟨g9, 0, none⟩) (A1.length + 1) cap9)
    have hn10 : GvN v' (.slice (some ⟨g9, 0, none⟩) (A1.length + 1) cap9) (wr).heap.size := fun j hj => by
      have eg : g9 = j := by simpa [Value.ownBlock] using hj
      rcases hat9 with h9 | h9
      · exact .inl (by rw [h9, eg])
      · simp at h9; exact .inr (by omega)
    rw [HA3.out] at hown10
    rw [← Hla.out]
    go_wp2_with fail
    go_roundg (l.length - (k + 1))
    case measure => have := hgk.out; omega
    case rel => exact ⟨k + 1, _, by go_num, by omega, rfl, by rw [HA2.out]; exact ⟨hq10, hown10⟩, kpG hkp hnw.out hk10, hnw.out.trans hn10 hkp.size⟩
  · obtain rfl : k = l.length := by omega
    rw [Hfin.out] at hst
    go_wp2_with fail
    go_end0
    exact ⟨rfl, v', hst, hkp, hnw.out⟩
end Go.Proofs.YthajoedabjfaaaaGreatDoor

/-! The closure of the reference that finds words. -/
namespace Go.Proofs.YthajoedabjfaaaaGreatDoor
open Go.RowKit
set_option linter.unusedVariables false
set_option linter.unusedSimpArgs false

theorem SA.part {α : Type} [Cel α] {w : World} {b off : Nat} {l : List α} (h : SA w (some ⟨b, off, none⟩) l) (k n : Nat) : SA w (some ⟨b, off + k * Cel.k α, none⟩) ((l.drop k).take n) := by
  by_cases hl : l = []
  · subst hl; exact .inl (by simp)
  · rcases h with h | ⟨b2, o2, he, h⟩
    · exact absurd h hl
    · cases he
      refine .inr ⟨b, off + k * Cel.k α, rfl, fun i j x hx hj => ?_⟩
      by_cases hi : i < n
      · rw [List.getElem?_take_of_lt hi, List.getElem?_drop] at hx
        have := h (k + i) j x hx hj
        rw [show off + k * Cel.k α + (i * Cel.k α + j) = off + ((k + i) * Cel.k α + j) by rw [Nat.add_mul]; omega]
        exact this
      · rw [List.getElem?_take_eq_none (by omega)] at hx
        cases hx
/-- Words and spots of a text, in the boxes bw and bs. -/
structure TxSt (q bw bs : Nat) (w : World) (s : ByteArray) (wa : Option Addr) (wc : Nat) (sa : Option Addr) (sc : Nat) : Prop where
  wbox : Box w bw 26 #[.slice wa (wordsS s).length wc]
  words : SA w wa (wordsS s)
  sbox : Box w bs 64 #[.slice sa (spots s).length sc]
  spots : SA w sa ((spots s).map spanV)
  cap : (wordsS s).length ≤ wc
  lw : bw < q
  ls : bs < q
  lwb : ∀ x : Addr, wa = some x → x.block < q
  lsb : ∀ x : Addr, sa = some x → x.block < q
theorem TxSt.kp {q bw bs : Nat} {w w' : World} {s : ByteArray} {wa : Option Addr} {wc : Nat} {sa : Option Addr} {sc : Nat} (h : TxSt q bw bs w s wa wc sa sc) {X : Nat → Prop} (k : Kp X w w') (hX : ∀ j, j < q → ¬ X j) : TxSt q bw bs w' s wa wc sa sc :=
  ⟨h.wbox.kp k (hX _ h.lw), h.words.kp k (fun x hx _ => hX _ (h.lwb x hx)), h.sbox.kp k (hX _ h.ls), h.spots.kp k (fun x hx _ => hX _ (h.lsb x hx)), h.cap, h.lw, h.ls, h.lwb, h.lsb⟩
theorem TxSt.spot {q bw bs : Nat} {w : World} {s : ByteArray} {wa : Option Addr} {wc : Nat} {sa : Option Addr} {sc : Nat} (h : TxSt q bw bs w s wa wc sa sc) {i : Nat} (hi : i < (wordsS s).length) : ∃ b o, sa = some ⟨b, o, none⟩ ∧ w.cell? ⟨b, o + i * 2, none⟩ = some (.int .i64 (frA s i)) ∧ w.cell? ⟨b, o + i * 2 + 1, none⟩ = some (.int .i64 (toA s i)) := by
  rw [wordsS_length] at hi
  obtain ⟨b, o, he, c0, c1⟩ := h.spots.spn (i := i) (by rw [List.length_map]; exact hi)
  have e := spot_at hi
  rw [List.getElem_map, e] at c0 c1
  exact ⟨b, o, he, c0, c1⟩
theorem TxSt.part {q bw bs : Nat} {w : World} {s : ByteArray} {wa : Option Addr} {wc : Nat} {sa : Option Addr} {sc : Nat} (h : TxSt q bw bs w s wa wc sa sc) {i : Nat} (hi : i < (wordsS s).length) (n : Nat) : ∃ b o, wa = some ⟨b, o, none⟩ ∧ SA w (some ⟨b, o + i, none⟩) (((wordsS s).drop i).take n) := by
  obtain ⟨b, o, he, _⟩ := h.words.str hi
  have hp := h.words
  rw [he] at hp
  have := hp.part i n
  rw [show i * Cel.k ByteArray = i from Nat.mul_one i] at this
  exact ⟨b, o, he, this⟩
set_option maxRecDepth 100000 in
set_option maxHeartbeats 16000000 in
theorem findRf_any (q bw bs : Nat) (s : ByteArray) (wa : Option Addr) (wc : Nat) (sa : Option Addr) (sc : Nat) (v : Value) (acc : List Gv) (kind : Int) (who : ByteArray) (la : Option Addr) (lc : Nat) (l : List ByteArray) (w : World) (h : GvSt q w v acc) (ht : TxSt q bw bs w s wa wc sa sc) (hsa : SA w la l) (hfar : ∀ x : Addr, la = some x → x.block ≠ q ∧ v.ownBlock ≠ some x.block)
    (hne : 1 ≤ l.length) (hll : l.length ≤ 1000) (hs : s.size ≤ 1000000) (hal : acc.length ≤ 50000000) :
    Calls Tryz.prog 47 #[.int .i64 kind, .slice la l.length lc, .string who, .pointer (some ⟨bw, 0, none⟩), .pointer (some ⟨q, 0, none⟩), .pointer (some ⟨bs, 0, none⟩)] w (fun e w' => e = .returned (.tuple #[]) ∧ ∃ v', GvSt q w' v' (acc ++ addAll kind who (findS s l)) ∧ Kp (GvX q v) w w' ∧ GvN v v' w.heap.size) := by
  have hn : (wordsS s).length ≤ 1000001 := by have := spots_len s; rw [wordsS_length]; omega
  have hlS : (wordsS s).length = (spots s).length := wordsS_length s
  have Hfy := Lib.hid (fun k (h : fitAt (wordsS s) l k = true) => findTo_yes h)
  have Hfn := Lib.hid (fun k (h : fitAt (wordsS s) l k = false) => findTo_no h)
  have Hbd : Hid (∀ i, i < (wordsS s).length → frA s i < toA s i ∧ toA s i ≤ s.size) := fun i hi => by rw [wordsS_length] at hi; exact spot_bd hi
  have Hfin : Hid (findS s l = findTo s l ((wordsS s).length + 1 - l.length)) := rfl
  have H0 : Hid (acc ++ addAll kind who (findTo s l 0) = acc) := by show _ = _; rw [findTo_zero]; simp [addAll]
  have Hal : Hid (∀ k, (acc ++ addAll kind who (findTo s l k)).length ≤ acc.length + k) := fun k => by rw [List.length_append, addAll_len]; have := findTo_len s l k; omega
  have HT := Lib.hid ht
  have Hsp := Lib.hid (fun W (h : TxSt q bw bs W s wa wc sa sc) i (hi : i < (wordsS s).length) => h.spot hi)
  have Hfar := Lib.hid hfar
  have H := Lib.hid h
  have hcw := ht.cap
  have hqw := ht.lw
  have hqs := ht.ls
  have HWp := Lib.hid (fun W (h : TxSt q bw bs W s wa wc sa sc) k (hk : k < (wordsS s).length) => h.part hk l.length)
  have HEq := Lib.hid (fun W a a2 c c2 k (h1 : SA W a (((wordsS s).drop k).take l.length)) (h2 : SA W a2 l) (hk : k + l.length ≤ (wordsS s).length) => (show Calls Tryz.prog 37 #[.slice a l.length c, .slice a2 l.length c2] W (Draws (.bool (fitAt (wordsS s) l k)) W) by
    have e : (((wordsS s).drop k).take l.length).length = l.length := by rw [List.length_take, List.length_drop]; omega
    have := equal_any _ l a a2 c c2 W h1 h2 (by rw [e]; omega) (by omega)
    rw [e] at this
    exact this))
  have HTw := Lib.hid (fun W (h : TxSt q bw bs W s wa wc sa sc) => h.wbox.cell 0)
  have HTs := Lib.hid (fun W (h : TxSt q bw bs W s wa wc sa sc) => (show W.cell? ⟨bs, 0, none⟩ = some (.slice sa (wordsS s).length sc) by have := h.sbox.cell 0; rw [← hlS] at this; exact this))
  have Hlsb := Lib.hid ht.lsb
  generalize findS s l = res at *
  generalize wordsS s = ws at *
  generalize frA s = fr at *
  generalize toA s = tt at *
  clear hlS h hfar ht
  obtain ⟨N, hN⟩ : ∃ N, ws.length + 1 - l.length = N := ⟨_, rfl⟩
  rw [hN] at Hfin
  go_enter Tryz.func47, Tryz.ntmps47
  go_wp2_with fail
  go_loopg [9] N (fun gk i wr => ∃ (k : Nat) (v' : Value), i = .int .i64 k ∧ k ≤ N ∧ Hid (gk = N - k) ∧ GvSt q wr v' (acc ++ addAll kind who (findTo s l k)) ∧ Kp (GvX q v) w wr ∧ Hid (GvN v v' w.heap.size))
  case atStart => exact ⟨0, v, rfl, by omega, rfl, by rw [H0.out]; exact H.out, Kp.refl _ _, GvN.refl _ _⟩
  obtain ⟨k, v', rfl, hk, hgk, hst, hkp, hnw⟩ := hrel
  have htr := HT.out.kp hkp (fun j hj => H.out.not hj)
  have d0 := HTw.out _ htr
  simp at d0
  obtain ⟨e, he⟩ : ∃ e, k + l.length = e := ⟨_, rfl⟩
  have hwk : IntKind.i64.wrap ((k : Int) + (l.length : Int)) = (e : Int) := by rw [IntWalk.i64_in _ (by omega)]; omega
  by_cases hlt : k < N
  · have hle : (e : Int) ≤ (ws.length : Int) := by omega
    have hdl : decide ((e : Int) ≤ (ws.length : Int)) = true := decide_eq_true hle
    have hkn : k < ws.length := by omega
    have hsar := hsa.kp hkp (fun x hx _ e => e.elim (Hfar.out x hx).1 (Hfar.out x hx).2)
    obtain ⟨wb, wo, hwa, hpt⟩ := HWp.out _ htr k hkn
    have HE1 : Hid (∀ c c2, Calls Tryz.prog 37 #[.slice (some ⟨wb, wo + k, none⟩) (e - k) c, .slice la l.length c2] wr (Draws (.bool (fitAt ws l k)) wr)) := fun c c2 => by
      rw [show e - k = l.length by omega]
      exact HEq.out wr _ _ c c2 k hpt hsar (by omega)
    rw [hwa] at d0
    have hk1 : (0 : Int) ≤ (k : Int) := by omega
    have hk2 : (k : Int) ≤ (e : Int) := by omega
    have hk3 : (e : Int) ≤ (wc : Int) := by omega
    have hk4 : (e : Int) - (k : Int) = (l.length : Int) := by omega
    have hfy := Lib.hid (Hfy.out k)
    have hfn := Lib.hid (Hfn.out k)
    have hal1 := Hal.out k
    clear hpt hsar
    generalize fitAt ws l k = fit at *
    cases fit
    · have Hn2 := Lib.hid (hfn.out rfl)
      go_wp2_with fail
      refine (HE1.out _ _).mono ?_
      rintro e' w4 ⟨rfl, nq, rfl⟩
      have hst4 := hst.below (below_drewN (Below.refl _ _) nq)
      have hkp4 := hkp.drewN nq
      go_wp2_with fail
      go_roundg (N - (k + 1))
      case measure => have := hgk.out; omega
      case rel => exact ⟨k + 1, v', by go_num, by omega, rfl, by rw [Hn2.out]; exact hst4, hkp4, hnw⟩
    · obtain ⟨e1, he1⟩ : ∃ e1, e - 1 = e1 := ⟨_, rfl⟩
      have hwe : IntKind.i64.wrap ((e : Int) - 1) = (e1 : Int) := by rw [IntWalk.i64_in _ (by omega)]; omega
      have he1n : e1 < ws.length := by omega
      have Hy2 : Hid (findTo s l (k + 1) = findTo s l k ++ [((fr k : Int), (tt e1 : Int))]) := by
        have := hfy.out rfl
        rw [he, he1] at this
        exact this
      obtain ⟨A2, hA2⟩ : ∃ A2, acc ++ addAll kind who (findTo s l (k + 1)) = A2 := ⟨_, rfl⟩
      have HA2 := Lib.hid hA2
      have HA3 : Hid ((acc ++ addAll kind who (findTo s l k)) ++ [(kind, (fr k : Int), (tt e1 : Int), who)] = A2) := by
        show _ = _
        rw [← hA2, Hy2.out]
        unfold addAll
        rw [List.map_append, List.append_assoc]
        rfl
      clear hA2
      generalize acc ++ addAll kind who (findTo s l k) = A1 at *
      go_wp2_with fail
      refine (HE1.out _ _).mono ?_
      rintro e' w4 ⟨rfl, nq, hw4⟩
      have hst4 : GvSt q w4 v' A1 := by rw [hw4]; exact hst.below (below_drewN (Below.refl _ _) nq)
      have ht4 : TxSt q bw bs w4 s wa wc sa sc := by rw [hw4]; exact htr.kp ((Kp.refl (fun _ => False) _).drewN nq) (fun _ _ h => h)
      have hkp4 : Kp (GvX q v) w w4 := by rw [hw4]; exact hkp.drewN nq
      have hsz4 : wr.heap.size = w4.heap.size := by rw [hw4]; rfl
      obtain ⟨sb, so, hs1, f0, f1⟩ := Hsp.out _ ht4 k hkn
      obtain ⟨sb2, so2, hs2, g0, g1⟩ := Hsp.out _ ht4 e1 he1n
      rw [hs1] at hs2
      cases hs2
      have hsbq := Hlsb.out _ hs1
      have hbs := HTs.out _ ht4
      rw [hs1] at hbs
      have hqc : w4.cell? ⟨q, 0, none⟩ = some v' := by have := hst4.box.cell 0; simpa using this
      have Hol := Lib.hid hst4.own.lt
      have hnot : ∀ b, b ≤ q → ¬ v'.ownBlock = some b := fun b hb e => by have := (Hol.out _ e).1; omega
      have hn0 := hnot q (Nat.le_refl _)
      have hn1 := hnot bs (by omega)
      have hn2 := hnot sb (by simp at hsbq; omega)
      have hfk := Hbd.out k hkn
      have hfe := Hbd.out e1 he1n
      generalize fr k = f at *
      generalize tt e1 = g at *
      have HS : Hid (∀ wx, Kp (fun b => v'.ownBlock = some b) w4 wx → (wx.cell? ⟨q, 0, none⟩ = some v' ∧ wx.cell? ⟨bs, 0, none⟩ = some (.slice (some ⟨sb, so, none⟩) ws.length sc) ∧ wx.cell? ⟨sb, so + k * 2, none⟩ = some (.int .i64 (f : Int)) ∧ wx.cell? ⟨sb, so + e1 * 2 + 1, none⟩ = some (.int .i64 (g : Int)))) := fun wx h => ⟨cellKp h hn0 hqc, cellKp h hn1 hbs, cellKp h hn2 f0, cellKp h hn2 g1⟩
      have hown1 := hst4.own.drew.alloc (.cells #[.int .i64 kind, .int .i64 (f : Int), .int .i64 (g : Int), .string who] 42)
      have hbx2 := hst4.box.drew.alloc (.cells #[.int .i64 kind, .int .i64 (f : Int), .int .i64 (g : Int), .string who] 42)
      have hkA := (Kp.refl (fun b => v'.ownBlock = some b) w4).drew.alloc (.cells #[.int .i64 kind, .int .i64 (f : Int), .int .i64 (g : Int), .string who] 42)
      have hq0 : q < w4.heap.size := hst4.box.lt
      have hk5 : (k : Int) < (ws.length : Int) := by omega
      have hk6 : (0 : Int) ≤ (e1 : Int) := by omega
      have hk7 : (e1 : Int) < (ws.length : Int) := by omega
      clear hst4 ht4 hst htr HE1 hqc hbs f0 f1 g0 g1 hw4
      go_upto_region 4 with (fail)
      refine wp_regionF (S := (fun wx => wx.cell? ⟨q, 0, none⟩ = some v' ∧ wx.cell? ⟨bs, 0, none⟩ = some (.slice (some ⟨sb, so, none⟩) ws.length sc) ∧ wx.cell? ⟨sb, so + k * 2, none⟩ = some (.int .i64 (f : Int)) ∧ wx.cell? ⟨sb, so + e1 * 2 + 1, none⟩ = some (.int .i64 (g : Int)))) 21 (by kernel_rfl) ?hS (fun hHeld => ?_)
      case hS => exact HS.out _ (Kp.refl _ _).drew
      refine rtakeF (i := 0) (d := (some 28)) (v := ?_) (n := 40) rfl (by kernel_rfl) (by kernel_rfl) (by kernel_rfl) (by kernel_rfl) (by kernel_rfl) (by kernel_rfl) (fun _ _ _ h => h) (by kernel_rfl) (by assumption) ?_ ?_
      rotate_left 1
      · (intro wI hSI; (try dsimp only at hSI); go_simp; (try with_reducible rfl))
      simp only [Act.put, List.setIfInBounds_toArray, List.set_cons_zero, List.set_cons_succ]
      refine rtakeF (i := 1) (d := (some 29)) (v := ?_) (n := 40) rfl (by kernel_rfl) (by kernel_rfl) (by kernel_rfl) (by kernel_rfl) (by kernel_rfl) (by kernel_rfl) (fun _ _ _ h => h) (by kernel_rfl) (by assumption) ?_ ?_
      rotate_left 1
      · (intro wI hSI; (try dsimp only at hSI); go_simp; (try with_reducible rfl))
      simp only [Act.put, List.setIfInBounds_toArray, List.set_cons_zero, List.set_cons_succ]
      refine rtakeF (i := 2) (d := (some 30)) (v := ?_) (n := 40) rfl (by kernel_rfl) (by kernel_rfl) (by kernel_rfl) (by kernel_rfl) (by kernel_rfl) (by kernel_rfl) (fun _ _ _ h => h) (by kernel_rfl) (by assumption) ?_ ?_
      rotate_left 1
      · (intro wI hSI; (try dsimp only at hSI); go_simp; (try with_reducible rfl))
      simp only [Act.put, List.setIfInBounds_toArray, List.set_cons_zero, List.set_cons_succ]
      refine rtakeF (i := 3) (d := (some 31)) (v := ?_) (n := 40) rfl (by kernel_rfl) (by kernel_rfl) (by kernel_rfl) (by kernel_rfl) (by kernel_rfl) (by kernel_rfl) (fun _ _ _ h => h) (by kernel_rfl) (by assumption) ?_ ?_
      rotate_left 1
      · (intro wI hSI; (try dsimp only at hSI); go_simp; (try with_reducible rfl))
      simp only [Act.put, List.setIfInBounds_toArray, List.set_cons_zero, List.set_cons_succ]
      refine rtakeF (i := 4) (d := (some 32)) (v := ?_) (n := 40) rfl (by kernel_rfl) (by kernel_rfl) (by kernel_rfl) (by kernel_rfl) (by kernel_rfl) (by kernel_rfl) (fun _ _ _ h => h) (by kernel_rfl) (by assumption) ?_ ?_
      rotate_left 1
      · (intro wI hSI; (try dsimp only at hSI); go_simp; (try with_reducible rfl))
      simp only [Act.put, List.setIfInBounds_toArray, List.set_cons_zero, List.set_cons_succ]
      refine rtakeF (i := 5) (d := (some 33)) (v := ?_) (n := 40) rfl (by kernel_rfl) (by kernel_rfl) (by kernel_rfl) (by kernel_rfl) (by kernel_rfl) (by kernel_rfl) (fun _ _ _ h => h) (by kernel_rfl) (by assumption) ?_ ?_
      rotate_left 1
      · (intro wI hSI; (try dsimp only at hSI); go_simp; (try with_reducible rfl))
      simp only [Act.put, List.setIfInBounds_toArray, List.set_cons_zero, List.set_cons_succ]
      refine rtakeF (i := 6) (d := (some 34)) (v := ?_) (n := 40) rfl (by kernel_rfl) (by kernel_rfl) (by kernel_rfl) (by kernel_rfl) (by kernel_rfl) (by kernel_rfl) (fun _ _ _ h => h) (by kernel_rfl) (by assumption) ?_ ?_
      rotate_left 1
      · (intro wI hSI; (try dsimp only at hSI); go_simp; (try with_reducible rfl))
      simp only [Act.put, List.setIfInBounds_toArray, List.set_cons_zero, List.set_cons_succ]
      refine rtakeF (i := 7) (d := (some 35)) (v := ?_) (n := 40) rfl (by kernel_rfl) (by kernel_rfl) (by kernel_rfl) (by kernel_rfl) (by kernel_rfl) (by kernel_rfl) (fun _ _ _ h => h) (by kernel_rfl) (by assumption) ?_ ?_
      rotate_left 1
      · (intro wI hSI; (try dsimp only at hSI); go_simp; (try with_reducible rfl))
      simp only [Act.put, List.setIfInBounds_toArray, List.set_cons_zero, List.set_cons_succ]
      refine rtakeF (i := 8) (d := (some 36)) (v := ?_) (n := 40) rfl (by kernel_rfl) (by kernel_rfl) (by kernel_rfl) (by kernel_rfl) (by kernel_rfl) (by kernel_rfl) (fun _ _ _ h => h) (by kernel_rfl) (by assumption) ?_ ?_
      rotate_left 1
      · (intro wI hSI; (try dsimp only at hSI); go_simp; (try with_reducible rfl))
      simp only [Act.put, List.setIfInBounds_toArray, List.set_cons_zero, List.set_cons_succ]
      refine rtakeF (i := 9) (d := (some 37)) (v := ?_) (n := 40) rfl (by kernel_rfl) (by kernel_rfl) (by kernel_rfl) (by kernel_rfl) (by kernel_rfl) (by kernel_rfl) (fun _ _ _ h => h) (by kernel_rfl) (by assumption) ?_ ?_
      rotate_left 1
      · (intro wI hSI; (try dsimp only at hSI); go_simp; (try with_reducible rfl))
      simp only [Act.put, List.setIfInBounds_toArray, List.set_cons_zero, List.set_cons_succ]
      refine rtakeF (i := 10) (d := (some 38)) (v := ?_) (n := 40) rfl (by kernel_rfl) (by kernel_rfl) (by kernel_rfl) (by kernel_rfl) (by kernel_rfl) (by kernel_rfl) (fun _ _ _ h => h) (by kernel_rfl) (by assumption) ?_ ?_
      rotate_left 1
      · (intro wI hSI; (try dsimp only at hSI); go_simp; (try with_reducible rfl))
      simp only [Act.put, List.setIfInBounds_toArray, List.set_cons_zero, List.set_cons_succ]
      refine rtakeF (i := 11) (d := (some 39)) (v := ?_) (n := 40) rfl (by kernel_rfl) (by kernel_rfl) (by kernel_rfl) (by kernel_rfl) (by kernel_rfl) (by kernel_rfl) (fun _ _ _ h => h) (by kernel_rfl) (by assumption) ?_ ?_
      rotate_left 1
      · (intro wI hSI; (try dsimp only at hSI); go_simp; (try with_reducible rfl))
      simp only [Act.put, List.setIfInBounds_toArray, List.set_cons_zero, List.set_cons_succ]
      refine rtakeF (i := 12) (d := (some 40)) (v := ?_) (n := 40) rfl (by kernel_rfl) (by kernel_rfl) (by kernel_rfl) (by kernel_rfl) (by kernel_rfl) (by kernel_rfl) (fun _ _ _ h => h) (by kernel_rfl) (by assumption) ?_ ?_
      rotate_left 1
      · (intro wI hSI; (try dsimp only at hSI); go_simp; (try with_reducible rfl))
      simp only [Act.put, List.setIfInBounds_toArray, List.set_cons_zero, List.set_cons_succ]
      refine rtakeF (i := 13) (d := (some 41)) (v := ?_) (n := 40) rfl (by kernel_rfl) (by kernel_rfl) (by kernel_rfl) (by kernel_rfl) (by kernel_rfl) (by kernel_rfl) (fun _ _ _ h => h) (by kernel_rfl) (by assumption) ?_ ?_
      rotate_left 1
      · (intro wI hSI; (try dsimp only at hSI); go_simp; (try with_reducible rfl))
      simp only [Act.put, List.setIfInBounds_toArray, List.set_cons_zero, List.set_cons_succ]
      refine rtakeF (i := 14) (d := (some 42)) (v := ?_) (n := 40) rfl (by kernel_rfl) (by kernel_rfl) (by kernel_rfl) (by kernel_rfl) (by kernel_rfl) (by kernel_rfl) (fun _ _ _ h => h) (by kernel_rfl) (by assumption) ?_ ?_
      rotate_left 1
      · (intro wI hSI; (try dsimp only at hSI); go_simp; (try with_reducible rfl))
      simp only [Act.put, List.setIfInBounds_toArray, List.set_cons_zero, List.set_cons_succ]
      refine rtakeF (i := 15) (d := (some 43)) (v := ?_) (n := 40) rfl (by kernel_rfl) (by kernel_rfl) (by kernel_rfl) (by kernel_rfl) (by kernel_rfl) (by kernel_rfl) (fun _ _ _ h => h) (by kernel_rfl) (by assumption) ?_ ?_
      rotate_left 1
      · (intro wI hSI; (try dsimp only at hSI); go_simp; (try with_reducible rfl))
      simp only [Act.put, List.setIfInBounds_toArray, List.set_cons_zero, List.set_cons_succ]
      refine rtakeF (i := 16) (d := (some 44)) (v := ?_) (n := 40) rfl (by kernel_rfl) (by kernel_rfl) (by kernel_rfl) (by kernel_rfl) (by kernel_rfl) (by kernel_rfl) (fun _ _ _ h => h) (by kernel_rfl) (by assumption) ?_ ?_
      rotate_left 1
      · (intro wI hSI; (try dsimp only at hSI); go_simp; (try with_reducible rfl))
      simp only [Act.put, List.setIfInBounds_toArray, List.set_cons_zero, List.set_cons_succ]
      refine rtakeF (i := 17) (d := (some 45)) (v := ?_) (n := 40) rfl (by kernel_rfl) (by kernel_rfl) (by kernel_rfl) (by kernel_rfl) (by kernel_rfl) (by kernel_rfl) (fun _ _ _ h => h) (by kernel_rfl) (by assumption) ?_ ?_
      rotate_left 1
      · (intro wI hSI; (try dsimp only at hSI); go_simp; (try with_reducible rfl))
      simp only [Act.put, List.setIfInBounds_toArray, List.set_cons_zero, List.set_cons_succ]
      refine rtakeF (i := 18) (d := (some 46)) (v := ?_) (n := 40) rfl (by kernel_rfl) (by kernel_rfl) (by kernel_rfl) (by kernel_rfl) (by kernel_rfl) (by kernel_rfl) (fun _ _ _ h => h) (by kernel_rfl) (by assumption) ?_ ?_
      rotate_left 1
      · (intro wI hSI; (try dsimp only at hSI); go_simp; (try with_reducible rfl))
      simp only [Act.put, List.setIfInBounds_toArray, List.set_cons_zero, List.set_cons_succ]
      refine rcallF (i := 19) (d := (some 47)) (by kernel_rfl) rfl (by kernel_rfl) (fun K hK => ?_)
      go_simp
      refine hK.out _ _ (.inr ?hS) (fun hHeld0 => ?_)
      case hS => exact HS.out _ hkA
      clear hK K
      have hHeld := hHeld0.resolve_left (by decide)
      simp only [Act.put, List.setIfInBounds_toArray, List.set_cons_zero, List.set_cons_succ]
      refine rcallF (i := 20) (d := (some 48)) (by kernel_rfl) rfl (by kernel_rfl) (fun K hK => ?_)
      refine step_append_lie (by rfl) _ _ 34 (by rfl) 42 40 (.agg #[.int .i64 0, .int .i64 0, .int .i64 0, .string ⟨#[]⟩]) Tryz.underlying34 Tryz.infoGv (by rfl) v' A1 (by rfl) hown1 (kind, (f : Int), (g : Int), who) _ (by rfl) (Box.new _ _ _) (by omega) (by omega) (by simp; omega) ?_; intro g9 cap9 w9 hown9 hg9 hat9; have hkB := hkA.grown hg9 (fun j hj => .inl hj)
      refine hK.out _ _ (.inr ?hS) (fun hHeld0 => ?_)
      case hS => exact HS.out _ hkB
      clear hK K
      have hHeld := hHeld0.resolve_left (by decide)
      simp only [Act.put, List.setIfInBounds_toArray, List.set_cons_zero, List.set_cons_succ]
      have hq9 := hbx2.kp ((Kp.refl (fun b => v'.ownBlock = some b) _).grown hg9 (fun j hj => .inl hj)) hn0
      have hfr9 := hq9.frozen 0
      have hc9 := hq9.cell 0
      have hk9 : Kp (GvX q v') w4 w9 := hkB.mono (fun j hj => .inl (.inr hj))
      simp at hc9
      refine rcallF (i := 21) (d := none) (by kernel_rfl) rfl (by kernel_rfl) (fun K hK => ?_)
      go_simp
      refine hK.out undef _ (.inl rfl) (fun _ => ?_)
      clear hK K
      simp only [Act.put, List.setIfInBounds_toArray, List.set_cons_zero, List.set_cons_succ]
      refine wpAnyF_done (by kernel_rfl) ?_ _
      have hk10 := hk9.setCell (p := ⟨q, 0, none⟩) (.inl (.inl rfl)) (.slice (some ⟨g9, 0, none⟩) (A1.length + 1) cap9)
      have hown10 := hown9.kp ((Kp.refl (fun b => b = q) w9).setCell (p := ⟨q, 0, none⟩) (.inl rfl) (.slice (some ⟨g9, 0, none⟩) (A1.length + 1) cap9)) (fun j hj e => by have := (hown9.lt j hj).1; omega)
      have hq10 := hq9.set 0 (.slice (some ⟨g9, 0, none⟩) (A1.length + 1) cap9)
      have hn10 : GvN v' (.slice (some ⟨g9, 0, none⟩) (A1.length + 1) cap9) (w4).heap.size := fun j hj => by
        have eg : g9 = j := by simpa [Value.ownBlock] using hj
        rcases hat9 with h9 | h9
        · exact .inl (by rw [h9, eg])
        · simp at h9; exact .inr (by omega)
      rw [HA3.out] at hown10
      clear hHeld
      go_wp2_with fail
      go_roundg (N - (k + 1))
      case measure => have := hgk.out; omega
      case rel => exact ⟨k + 1, _, by go_num, by omega, rfl, by rw [HA2.out]; exact ⟨hq10, hown10⟩, kpG hkp4 hnw.out hk10, hnw.out.trans hn10 hkp4.size⟩
  · have hdl : decide ((e : Int) ≤ (ws.length : Int)) = false := decide_eq_false (by omega)
    obtain rfl : k = N := by omega
    rw [← Hfin.out] at hst
    go_wp2_with fail
    go_end0
    exact ⟨rfl, v', hst, hkp, hnw.out⟩
end Go.Proofs.YthajoedabjfaaaaGreatDoor
