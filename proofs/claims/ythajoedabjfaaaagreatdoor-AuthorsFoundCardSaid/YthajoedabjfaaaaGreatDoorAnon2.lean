/- The error of Anonymity: of the reference. -/
import Derived.Test.YthajoedabjfaaaaGreatDoorName
import Derived.Test.YthajoedabjfaaaaGreatDoorCovR
import Derived.Test.YthajoedabjfaaaaGreatDoorAppAll
import Derived.Test.YthajoedabjfaaaaGreatDoorWord1
import Derived.Test.YthajoedabjfaaaaGreatDoorLine1
import Derived.Lib.AppendZerosOnto
import Derived.Test.YthajoedabjfaaaaGreatDoorLineP
/-! The error of Anonymity: of the reference. -/
namespace Go.Proofs.YthajoedabjfaaaaGreatDoor
open Go.RowKit
set_option linter.unusedVariables false
set_option linter.unusedSimpArgs false

/-- The error of Anonymity, where there are not too many names. -/
def anonE (t : ByteArray) (names homes : List ByteArray) : Int := if (names ++ homes).all nameB = true then bodyE t else 3
set_option maxRecDepth 100000 in
set_option maxHeartbeats 4000000 in
theorem indexNStr_any (l : List ByteArray) (a : Option Addr) (cap g : Nat) (lb : Array Value) (c : ByteArray → Bool) (w : World) (eg : ∀ args w, (callFunc g args).run Tryz.prog w = .ok (.enter g args) w) (h : SA w a l) (hlen : l.length ≤ 1000000000) (hc : TestAt Value.string g lb c l w) :
    Calls Tryz.prog 81 #[.slice a l.length cap, .func (.func g) #[] lb] w (fun e w' => ∃ r : Int, e = .returned (.int .i64 r) ∧ decide (0 ≤ r) = l.any c ∧ Below w.heap.size w w' ∧ r = idxI c l) := by
  have HC := Lib.hid hc
  clear hc
  go_enter Tryz.func81, Tryz.ntmps81
  go_wp2_with fail
  go_loopg [8] l.length (fun gk i wr => ∃ k : Nat, i = .int .i64 k ∧ k ≤ l.length ∧ Hid (gk = l.length - k) ∧ Hid (∀ x ∈ l.take k, c x = false) ∧ Below w.heap.size w wr)
  case atStart => exact ⟨0, rfl, by omega, rfl, fun x hx => (by cases hx), Below.refl _ _⟩
  case round =>
    obtain ⟨k, rfl, hk, hgk, hf, hb⟩ := hrel
    by_cases hlt : k < l.length
    · obtain ⟨b, off, ha, c0⟩ := (h.below hb).str hlt
      have HCx := Lib.hid (HC.out l[k] (List.getElem_mem hlt) wr hb)
      have Hat := Lib.hid (any_at (c := c) hlt)
      have Htk := Lib.hid (List.take_succ_eq_append_getElem hlt)
      have Hix := Lib.hid (fun h => idxI_at (c := c) hlt h hf.out)
      have Ha := Lib.hid ha
      rw [ha]
      clear ha
      generalize l[k] = x at *
      obtain x := x
      (try simp only at *)
      have hk1 : (0 : Int) ≤ (k : Int) := by omega
      have hk2 : (k : Int) < (l.length : Int) := by omega
      obtain ⟨cx, hcx⟩ : ∃ cx, c x = cx := ⟨_, rfl⟩
      rw [hcx] at HCx Hat Hix
      have Hcx := Lib.hid hcx
      clear hcx
      go_wp2_with fail
      refine HCx.out.mono ?_
      rintro e w1 ⟨rfl, hb1⟩
      have hb1' := below_next hb hb1
      cases cx
      · go_wp2_with fail
        rw [← Ha.out]
        go_roundg (l.length - (k + 1))
        case measure => have := hgk.out; omega
        case rel => exact ⟨k + 1, by go_num, by omega, rfl, by rw [Htk.out]; exact fun x hx => (List.mem_append.1 hx).elim (hf.out x) (fun h => by rw [List.mem_singleton.1 h]; exact Hcx.out), hb1'⟩
      · have Hany := Lib.hid (Hat.out rfl)
        have Hr := Lib.hid (Hix.out rfl)
        go_wp2_with fail
        go_ret
        exact ⟨_, rfl, by rw [Hany.out]; exact decide_eq_true hk1, hb1', Hr.out.symm⟩
    · obtain rfl : k = l.length := by omega
      have Hany := Lib.hid (any_none hf.out)
      have Hr := Lib.hid (idxI_none hf.out)
      go_wp2_with fail
      go_ret
      exact ⟨_, rfl, by rw [Hany.out]; rfl, hb, Hr.out.symm⟩
set_option maxHeartbeats 4000000 in
theorem findNStr_any (l : List ByteArray) (a : Option Addr) (cap g : Nat) (lb : Array Value) (c : ByteArray → Bool) (w : World) (eg : ∀ args w, (callFunc g args).run Tryz.prog w = .ok (.enter g args) w) (h : SA w a l) (hlen : l.length ≤ 1000000000) (hc : TestAt Value.string g lb c l w) :
    Calls Tryz.prog 42 #[.slice a l.length cap, .func (.func g) #[] lb] w (Gives (.bool (l.any c)) w) := by
  have HI := Lib.hid (indexNStr_any l a cap g lb c w eg h hlen hc)
  clear hc
  go_enter Tryz.func42, Tryz.ntmps42
  go_wp2_with fail
  refine HI.out.mono ?_
  rintro e w1 ⟨r, rfl, hr, hb, hri⟩
  clear hri
  go_wp2_with fail
  go_ret
  exact ⟨by rw [← hr] <;> rfl, hb⟩
set_option maxRecDepth 100000 in
set_option maxHeartbeats 4000000 in
theorem growStr_any (n : Nat) (w : World) (hn : n ≤ 1000) : Calls Tryz.prog 82 #[.slice none 0 0, .int .i64 (n : Int)] w (GivesOwn 9 ([] : List ByteArray) w) := by
  by_cases h0 : n = 0
  · subst h0
    go_enter Tryz.func82, Tryz.ntmps82
    go_wp2_with fail
    go_ret
    exact ⟨_, rfl, Own.nil _ _ _, Below.refl _ _⟩
  · obtain ⟨i0, hi, hz0, hz1, hz2⟩ := info_parts Tryz.infoStrW
    have hcap0 : grownCap w (0 + n) 0 9 ≤ maxLen := grownCap_le_maxLen w (0 + n) 0 9 (by unfold maxLen; omega)
    have hGn : 0 + n ≤ grownCap w (0 + n) 0 9 := grownCap_ge w _ _ _
    have hrz : ∀ ty, (Builtin.append_ #[26, 3] ty #[.slice none 0 0, .int .i64 (n : Int)]).run Tryz.prog w =
        .ok (.slice (some ⟨w.heap.size, 0, none⟩) (0 + n) (grownCap w (0 + n) 0 9)) (w.drew.alloc (.cells ((#[] : Array Value) ++ Builtin.zeroCells (Value.string ⟨#[]⟩).cells n ++ Builtin.zeroCells (Value.string ⟨#[]⟩).cells (grownCap w (0 + n) 0 9 - (0 + n))) 9)) := fun ty => by
      have h := Lib.run_append_grow_zeros w 26 3 ty 9 i0 (.string ⟨#[]⟩) .i64 .i64 Tryz.underlying26 Tryz.underlying3 hi hz0 none 0 0 [] (run_firstCells_none w.drew i0.size 0 0 0) n (by omega) (by rw [hz1]; decide) (by omega) (by omega)
        (by rw [hz2]; omega)
        (growslice_fits (by omega) (by rw [hz2]; omega))
      exact h
    obtain ⟨G, hG⟩ : ∃ G, grownCap w (0 + n) 0 9 = G := ⟨_, rfl⟩
    rw [hG] at hrz hGn hcap0
    rw [Nat.zero_add] at hrz hGn
    have h1 : ¬ ((n : Int) < 0) := by omega
    have h2 : IntKind.i64.wrap (n : Int) = (n : Int) := IntWalk.i64_in _ (by omega)
    have h3 : (0 : Int) < (n : Int) := by omega
    clear hG hi hz0 hz1 hz2 h0
    go_enter Tryz.func82, Tryz.ntmps82
    go_wp2_with (at_builtin; refine Lib.wpList_append_run _ rfl _ _ _ _ rfl _ _ rfl rfl _ _ (hrz _) ?_)
    all_goals
      go_ret
      refine ⟨_, rfl, ⟨by simp, .inr ⟨w.heap.size, G, _, rfl, Nat.le_refl _, Box.new _ _ _, Nat.zero_le _, hcap0, ?_, by simp⟩⟩, (Below.refl _ _).drew.alloc (by simp) _⟩
      simp [Builtin.zeroCells, Value.cells]
      have hk : Cel.k ByteArray = 1 := rfl
      rw [hk]
      omega
set_option maxRecDepth 100000 in
set_option maxHeartbeats 8000000 in
theorem concat2_any (a b : List ByteArray) (aa ba : Option Addr) (ac bc x : Nat) (w : World) (hbox : Box w x 26 #[.slice aa a.length ac, .slice ba b.length bc]) (ha : SA w aa a) (hb : SA w ba b) (hal : a.length ≤ 100) (hbl : b.length ≤ 100) :
    Calls Tryz.prog 43 #[.slice (some ⟨x, 0, none⟩) 2 2] w (GivesOwn 9 (a ++ b) w) := by
  obtain ⟨n, hn⟩ : ∃ n, a.length + b.length = n := ⟨_, rfl⟩
  have hw0 : IntKind.i64.wrap (0 + (a.length : Int)) = (a.length : Int) := by rw [IntWalk.i64_in _ (by omega)]; omega
  have hw0' : IntKind.i64.wrap (a.length : Int) = (a.length : Int) := IntWalk.i64_in _ (by omega)
  have hw1 : IntKind.i64.wrap ((a.length : Int) + (b.length : Int)) = (n : Int) := by rw [IntWalk.i64_in _ (by omega)]; omega
  have hneg0 : decide ((a.length : Int) < 0) = false := decide_eq_false (by omega)
  have hneg1 : decide ((n : Int) < 0) = false := decide_eq_false (by omega)
  have HG := Lib.hid (growStr_any n w (by omega))
  have HB := Lib.hid hbox
  have hbox_l := hbox.lt; have hbox_0 := hbox.cell 0; have hbox_1 := hbox.cell 1; simp at hbox_0 hbox_1
  go_enter Tryz.func43, Tryz.ntmps43
  go_wp2_with fail
  refine wp_loop_rounds 3 ?_
  rw [rounds_succ]
  go_wp2_with fail
  rw [rounds_succ]
  go_wp2_with fail
  rw [rounds_succ]
  go_wp2_with fail
  refine HG.out.mono ?_
  rintro e w1 ⟨v1, rfl, hown1, hb1⟩
  have hB1 := HB.out.below hb1
  have Hl1 := Lib.hid hown1.lt
  have hB1_l := hB1.lt; have hB1_0 := hB1.cell 0; have hB1_1 := hB1.cell 1; simp at hB1_0 hB1_1
  go_wp2_with fail
  refine wp_loop_rounds 3 ?_
  rw [rounds_succ]
  go_wp2_with (at_builtin; refine wpList_append_all (α := ByteArray) rfl _ _ 26 rfl 9 16 (.string ⟨#[]⟩) Tryz.underlying26 Tryz.infoStrW rfl v1 [] rfl hown1 a aa ac rfl (ha.below hb1) (by simp; omega) (by simp; omega) hb1.size ?_; intro v2 w2 hown2 hg2; have hb2 := hb1.grown hg2 hb1.size (fun j hj => (Hl1.out j hj).1); have hB2 := HB.out.below hb2; have hB20 := hB2.cell 0; have hB21 := hB2.cell 1)
  rw [List.nil_append] at hown2
  have Hl2 := Lib.hid hown2.lt
  simp at hB20 hB21
  rw [rounds_succ]
  go_wp2_with (at_builtin; refine wpList_append_all (α := ByteArray) rfl _ _ 26 rfl 9 16 (.string ⟨#[]⟩) Tryz.underlying26 Tryz.infoStrW rfl v2 a rfl hown2 b ba bc rfl (hb.below hb2) (by omega) (by omega) hb2.size ?_; intro v3 w3 hown3 hg3; have hb3 := hb2.grown hg3 hb2.size (fun j hj => (Hl2.out j hj).1))
  rw [rounds_succ]
  go_wp2_with fail
  go_ret
  exact ⟨_, rfl, hown3, hb3⟩
set_option maxHeartbeats 1000000 in
theorem anonClo1_any (x : ByteArray) (w : World) (hE : Env w) (hx : x.size ≤ 1000000) : Calls Tryz.prog 44 #[.string x] w (Gives (.bool (!nameB x)) w) := by
  have HN := Lib.hid (nameOf_any x w hE hx)
  generalize nameB x = b at *
  go_enter Tryz.func44, Tryz.ntmps44
  go_wp2_with fail
  refine HN.out.mono ?_
  rintro e w1 ⟨rfl, hb1⟩
  go_wp2_with fail
  go_ret
  exact ⟨rfl, hb1⟩
theorem any_not_all {α : Type} (p : α → Bool) : ∀ l : List α, l.any (fun x => !p x) = !l.all p
  | [] => rfl
  | x :: l => by rw [List.any_cons, List.all_cons, any_not_all p l]; cases p x <;> simp
set_option maxRecDepth 100000 in
set_option maxHeartbeats 8000000 in
theorem anonFault_any (t : ByteArray) (names homes : List ByteArray) (na ha : Option Addr) (nc hc : Nat) (w : World) (hE : Env w) (hn : SA w na names) (hh : SA w ha homes) (hnl : names.length ≤ 20) (hhl : homes.length ≤ 50) (hnz : ∀ x ∈ names, x.size ≤ 1000000) (hhz : ∀ x ∈ homes, x.size ≤ 1000000) (hs : t.size ≤ 1000000) :
    Calls Tryz.prog 11 #[.slice na names.length nc, .slice ha homes.length hc, .string t] w (Gives (.int .i64 (anonE t names homes)) w) := by
  have hd1 : decide ((20 : Int) < (names.length : Int)) = false := decide_eq_false (by omega)
  have hd2 : decide ((50 : Int) < (homes.length : Int)) = false := decide_eq_false (by omega)
  have hb0 : Below w.heap.size w (w.alloc (.cells #[.slice na names.length nc, .slice ha homes.length hc] 26)) := by (repeat' (first | exact Below.refl _ _ | assumption | refine Below.setCell ?_ ?_ _ | refine below_drewN ?_ _ | refine Below.drew ?_ | refine Below.alloc ?_ ?_ _ | (with_reducible refine Below.trans ?_ (Below.mono hb ?_)) | (with_reducible refine Below.trans ?_ (Below.mono hb0 ?_)) | (with_reducible refine Below.trans ?_ (Below.mono hb1 ?_)) | (with_reducible refine Below.trans ?_ (Below.mono hb2 ?_)) | (with_reducible refine Below.trans ?_ (Below.mono hb3 ?_)) | (with_reducible refine Below.trans ?_ (Below.mono hb4 ?_)) | (with_reducible refine Below.trans ?_ (Below.mono hb5 ?_)) | (with_reducible refine Below.trans ?_ (Below.mono hb6 ?_)) | (with_reducible refine Below.trans ?_ (Below.mono hb7 ?_)) | (with_reducible refine Below.trans ?_ (Below.mono hb8 ?_)) | (with_reducible refine Below.trans ?_ (Below.mono hb9 ?_)) | (with_reducible refine Below.trans ?_ (Below.mono hb10 ?_)) | (with_reducible refine Below.trans ?_ (Below.mono hb11 ?_)) | (with_reducible refine Below.trans ?_ (Below.mono hb12 ?_)) | (with_reducible refine Below.trans ?_ (Below.mono hb13 ?_)) | (with_reducible refine Below.trans ?_ (Below.mono hb14 ?_)) | (with_reducible refine Below.trans ?_ (Below.mono hb15 ?_)) | omega | (simp; done) | (simp; omega)))
  have HC := Lib.hid (concat2_any names homes na ha nc hc w.heap.size _ (Box.new w 26 #[.slice na names.length nc, .slice ha homes.length hc]) (hn.below hb0) (hh.below hb0) (by omega) (by omega))
  have Haz : Hid (∀ x ∈ names ++ homes, x.size ≤ 1000000) := fun x hx => (List.mem_append.1 hx).elim (hnz x) (hhz x)
  have Hal : Hid ((names ++ homes).length ≤ 70) := by show _ ≤ _; rw [List.length_append]; omega
  have HF := Lib.hid (fun a cap W (h : Below w.heap.size w W) (hsa : SA W a (names ++ homes)) => findNStr_any (names ++ homes) a cap 44 #[] (fun x => !nameB x) W (enters_of Tryz.func44 (by kernel_rfl) rfl) hsa (by have := Hal.out; omega) (fun x hx W' h' => anonClo1_any x W' (hE.below (below_next h h')) (Haz.out x hx)))
  have HB := Lib.hid (fun W (h : Below w.heap.size w W) => bodyFault_any t W (hE.below h) (by omega))
  have HA : Hid (anonE t names homes = if (names ++ homes).any (fun x => !nameB x) = true then 3 else bodyE t) := by
    show _ = _
    unfold anonE
    rw [any_not_all]
    cases (names ++ homes).all nameB <;> rfl
  generalize (names ++ homes).any (fun x => !nameB x) = an at *
  generalize names ++ homes = al at *
  generalize anonE t names homes = res at *
  generalize bodyE t = be at *
  clear hnz hhz Haz Hal
  go_enter Tryz.func11, Tryz.ntmps11
  go_wp2_with fail
  refine HC.out.mono ?_
  rintro e w1 ⟨v1, rfl, hown1, hb1⟩
  have hb01 := below_next hb0 hb1
  obtain ⟨a1, c1, rfl, hsa1, -, -⟩ := hown1.sa
  have HF1 := Lib.hid (HF.out _ c1 _ hb01 hsa1)
  clear HF HC
  go_wp2_with fail
  refine HF1.out.mono ?_
  rintro e w2 ⟨rfl, hb2⟩
  have hb02 := below_next hb01 hb2
  cases an
  · go_wp2_with fail
    refine (HB.out _ hb02).mono ?_
    rintro e w3 ⟨rfl, hb3⟩
    go_wp2_with fail
    go_ret
    exact ⟨by rw [HA.out] <;> rfl, below_next hb02 hb3⟩
  · go_wp2_with fail
    go_ret
    exact ⟨by rw [HA.out] <;> rfl, hb02⟩
end Go.Proofs.YthajoedabjfaaaaGreatDoor

/-! Initials of the program and of the reference. -/
namespace Go.Proofs.YthajoedabjfaaaaGreatDoor
open Go.RowKit
set_option linter.unusedVariables false
set_option linter.unusedSimpArgs false

theorem wordsS_size {s x : ByteArray} (h : x ∈ wordsS s) : x.size ≤ s.size := by
  unfold wordsS at h
  obtain ⟨p, hp, rfl⟩ := List.mem_map.1 h
  have e : (lowS (s.extract p.1 p.2)).size = (s.extract p.1 p.2).data.toList.length := by
    show ((s.extract p.1 p.2).data.toList.map lowU).toArray.size = _
    rw [List.size_toArray, List.length_map]
  rw [e, extract_list, List.length_drop, List.length_take]
  have : s.data.toList.length = s.size := by simp
  omega
theorem cutW_size (w : ByteArray) : (cutW w).size ≤ w.size := by
  unfold cutW
  have e : (w.extract 0 (runeN w)).size = (w.extract 0 (runeN w)).data.toList.length := by simp
  rw [e, extract_list, List.length_drop, List.length_take]
  have : w.data.toList.length = w.size := by simp
  omega
theorem initL_size {ws : List ByteArray} {M : Nat} (h : ∀ x ∈ ws, x.size ≤ M) : ∀ x ∈ initL ws, x.size ≤ M := fun x hx => by
  unfold initL chgTo at hx
  rcases List.mem_append.1 hx with h1 | h1
  · obtain ⟨v, hv, rfl⟩ := List.mem_map.1 h1
    exact Nat.le_trans (cutW_size v) (h v (List.mem_of_mem_take hv))
  · exact h x (List.mem_of_mem_drop h1)
theorem joinB_size {f : List ByteArray} {M : Nat} (hz : ∀ x ∈ f, x.size ≤ M) : (joinB f).size ≤ f.length * (M + 1) := by
  have h1 := join_bd [32] M (f.map (·.data.toList)) (fun x hx => by obtain ⟨y, hy, rfl⟩ := List.mem_map.1 hx; have := hz y hy; simpa using this)
  rw [List.length_map] at h1
  show (Lib.join (f.map (·.data.toList)) [32]).toArray.size ≤ _
  rw [List.size_toArray]
  exact h1
/-- Pieces joined by blanks. -/
theorem join_any (f : List ByteArray) (a : Option Addr) (cap M : Nat) (W : World) (hf : f ≠ []) (hsa : SA W a f) (hl : f.length ≤ 1000) (hM : M ≤ 100000) (hz : ∀ x ∈ f, x.size ≤ M) (hcap : f.length ≤ cap) :
    Calls Tryz.prog 26 #[.slice a f.length cap, .string ⟨#[32]⟩] W (fun e w' => e = .returned (.string (joinB f)) ∧ Below W.heap.size W w') := by
  rcases hsa with h | ⟨b, off, rfl, ha⟩
  · exact absurd h hf
  · refine (Tryz.strings_Join b off cap f ⟨#[32]⟩ W (fun j x hx => ?_) (ha.lt hf) (by omega) hcap ?_).mono ?_
    · have := ha j 0 x hx (by decide)
      rw [show off + (j * Cel.k ByteArray + 0) = off + j by show off + (j * 1 + 0) = _; omega] at this
      exact this
    · have h1 := join_bd [32] M (f.map (·.data.toList)) (fun x hx => by obtain ⟨y, hy, rfl⟩ := List.mem_map.1 hx; have := hz y hy; simpa using this)
      rw [List.length_map] at h1
      have h3 : f.length * (M + [(32 : UInt8)].length) ≤ 1000 * 100001 := Nat.mul_le_mul hl (by show M + 1 ≤ _; omega)
      show (Lib.join (f.map (·.data.toList)) [32]).length ≤ _
      omega
    · rintro e w' ⟨rfl, hb⟩
      exact ⟨rfl, hb⟩
/-- What Initials answers, and its error. -/
def initV (s : ByteArray) : ByteArray := if nameB s = true then joinB (initL (wordsS s)) else ⟨#[]⟩
def initE (s : ByteArray) : Int := if nameB s = true then 0 else 3
set_option maxHeartbeats 4000000 in
theorem initialsP_any (s : ByteArray) (w : World) (hE : Env w) (hs : s.size ≤ 1000000) : Calls Tryz.prog 7 #[.string s] w (fun e w' => e = .returned (.tuple #[.string (initV s), .int .i64 (initE s)]) ∧ Below w.heap.size w w') := by
  have HN := Lib.hid (isName_any s w hE hs)
  cases hb : nameB s
  · rw [hb] at HN
    rw [show initV s = ⟨#[]⟩ from if_neg (by rw [hb]; decide), show initE s = 3 from if_neg (by rw [hb]; decide)]
    go_enter Tryz.func7, Tryz.ntmps7
    go_wp2_with fail
    refine HN.out.mono ?_
    rintro e w1 ⟨rfl, hb1⟩
    go_wp2_with fail
    go_ret2
    exact ⟨rfl, hb1⟩
  · have hok := nameB_ok hb
    rw [hb] at HN
    rw [show initV s = joinB (initL (wordsS s)) from if_pos hb, show initE s = 0 from if_pos hb]
    clear hb
    have HI := Lib.hid (fun W (h : Below w.heap.size w W) => initials_any s W (hE.below h) hs (by omega) (by omega))
    have Hsz : Hid (∀ x ∈ initL (wordsS s), x.size ≤ 60) := initL_size (fun x hx => by have := wordsS_size hx; omega)
    have Hlen := Lib.hid (initL_length (wordsS s))
    have HJ := Lib.hid (fun a cap W (h : SA W a (initL (wordsS s))) (hc : (initL (wordsS s)).length ≤ cap) => join_any (initL (wordsS s)) a cap 60 W (fun e => by have := Hlen.out; rw [e] at this; simp at this; omega) h (by have := Hlen.out; omega) (by omega) Hsz.out hc)
    generalize initL (wordsS s) = f at *
    generalize joinB f = jf at *
    clear hok Hlen Hsz hs
    go_enter Tryz.func7, Tryz.ntmps7
    go_wp2_with fail
    refine HN.out.mono ?_
    rintro e w1 ⟨rfl, hb1⟩
    go_wp2_with fail
    refine (HI.out _ hb1).mono ?_
    rintro e w2 ⟨v2, rfl, hown2, hb2⟩
    obtain ⟨a, cap, rfl, hsa, -, hcap⟩ := hown2.sa
    have HJ1 := Lib.hid (HJ.out _ _ _ hsa hcap)
    clear HI HJ HN
    go_wp2_with fail
    refine HJ1.out.mono ?_
    rintro e w3 ⟨rfl, hb3⟩
    go_wp2_with fail
    go_ret2
    exact ⟨rfl, below_next (below_next hb1 hb2) hb3⟩
set_option maxRecDepth 100000 in
set_option maxHeartbeats 8000000 in
theorem initialsOf_any (s : ByteArray) (w : World) (hE : Env w) (hs : s.size ≤ 60) (hne : 1 ≤ (wordsS s).length) (hll : (wordsS s).length ≤ 6) : Calls Tryz.prog 9 #[.string s] w (Gives (.string (joinB (initL (wordsS s)))) w) := by
  have HW := Lib.hid (wordsOfR_any s w (by omega))
  have Hpu := Lib.hid (fun x (h : x ∈ wordsS s) => word_pure h)
  have Hfin : Hid (initL (wordsS s) = chgTo cutW (wordsS s) ((wordsS s).length - 1)) := rfl
  have Hlen := Lib.hid (initL_length (wordsS s))
  have Hsz : Hid (∀ x ∈ initL (wordsS s), x.size ≤ 60) := initL_size (fun x hx => by have := wordsS_size hx; omega)
  have HJ := Lib.hid (fun a cap W (h : SA W a (initL (wordsS s))) (hc : (initL (wordsS s)).length ≤ cap) => join_any (initL (wordsS s)) a cap 60 W (fun e => by have := Hlen.out; rw [e] at this; simp at this; omega) h (by have := Hlen.out; omega) (by omega) Hsz.out hc)
  generalize initL (wordsS s) = res at *
  generalize wordsS s = ws at *
  generalize joinB res = jf at *
  clear hs Hsz
  go_enter Tryz.func9, Tryz.ntmps9
  go_wp2_with fail
  refine HW.out.mono ?_
  rintro e W1 ⟨v1, rfl, hown1, hb1⟩
  obtain ⟨wa, wc, rfl, hsa1, hab, hcap⟩ := hown1.form
  obtain ⟨g, rfl, hg1, hg2⟩ : ∃ g, wa = some ⟨g, 0, none⟩ ∧ w.heap.size ≤ g ∧ g < W1.heap.size := by
    rcases hab with rfl | ⟨g, rfl, h1, h2⟩
    · rcases hsa1 with h | ⟨b, o, h, -⟩
      · rw [h] at hne; simp at hne
      · cases h
    · exact ⟨g, rfl, h1, h2⟩
  obtain ⟨n1, hn1⟩ : ∃ n1, ws.length - 1 = n1 := ⟨_, rfl⟩
  have hwn : IntKind.i64.wrap ((ws.length : Int) - 1) = (n1 : Int) := by rw [IntWalk.i64_in _ (by omega)]; omega
  have hn0 : (0 : Int) ≤ (n1 : Int) := by omega
  have hn3 : n1 < ws.length := by omega
  rw [hn1] at Hfin
  clear hn1 HW hsa1 hab
  go_wp2_with fail
  go_loopg [12] n1 (fun gk i wr => ∃ k : Nat, i = .int .i64 k ∧ k ≤ n1 ∧ Hid (gk = n1 - k) ∧ Own w.heap.size 9 wr (.slice (some ⟨g, 0, none⟩) ws.length wc) (chgTo cutW ws k) ∧ Below w.heap.size w wr)
  case atStart => exact ⟨0, rfl, by omega, rfl, by rw [chgTo_zero]; exact hown1, hb1⟩
  obtain ⟨k, rfl, hk, hgk, hown, hb⟩ := hrel
  have hzr := hb.size
  by_cases hlt : k < n1
  · have hkw : k < ws.length := by omega
    have hkc : k < (chgTo cutW ws k).length := by rw [chgTo_length]; exact hkw
    obtain ⟨a2, c2, he2, hsa2, -, -⟩ := hown.sa
    obtain ⟨b2, o2, hb2, c0⟩ := hsa2.str hkc
    rw [chgTo_at hkw hkc] at c0
    simp only [Value.slice.injEq] at he2
    rw [← he2.1] at hb2
    cases hb2
    clear he2
    have hx := Hpu.out _ (List.getElem_mem hkw)
    have Hsu := Lib.hid (chgTo_succ (f := cutW) hkw)
    have hEr := hE.below (by exact below_next (Below.refl _ _) hb)
    generalize ws[k] = x at *
    have HD := Lib.hid (fun W (h : Env W) => decode_any x W h)
    have hr2 := runeN_le x
    have Hol := Lib.hid hown.lt
    have Hcut : Hid (x.extract 0 (runeN x) = cutW x) := rfl
    generalize cutW x = cx at *
    generalize runeN x = rn at *
    generalize (Lib.decodeGo x).1 = rr at *
    have hk1 : (0 : Int) ≤ (k : Int) := by omega
    have hk2 : (k : Int) < (n1 : Int) := by omega
    have hk3 : (k : Int) < (ws.length : Int) := by omega
    have hput0 := fun W (h : Own w.heap.size 9 W (.slice (some ⟨g, 0, none⟩) ws.length wc) (chgTo cutW ws k)) => h.put k 0 cx (.string cx) hkc (by decide) rfl
    rw [show k * Cel.k ByteArray + 0 = k by show k * 1 + 0 = k; omega, ← Hsu.out] at hput0
    rw [Nat.zero_add] at c0
    clear hkc hkw hsa2 Hsu hx
    have hsl : (rn : Int) ≤ (x.size : Int) := by omega
    have hcut := Hcut.out
    go_wp2_with fail
    refine (HD.out _ hEr).mono ?_
    rintro e w3 ⟨rfl, hb3'⟩
    have hput := hput0 _ (hown.below hb3')
    have hfr3 : w3.frozen? ⟨g, k, none⟩ = false := by
      obtain ⟨cur, hbox⟩ := (hown.below hb3').box
      exact hbox.frozen _
    have hgz : g < w3.heap.size := by have := hb3'.size; have := (Hol.out g rfl).2; omega
    have hb3 := (below_next hb hb3').setCell (p := ⟨g, k, none⟩) (by show w.heap.size ≤ g; exact hg1) (.string cx)
    have c3 := cell_later hb3' c0
    clear hown HD hput0
    go_wp2_with fail
    go_roundg (n1 - (k + 1))
    case measure => have := hgk.out; omega
    case rel => exact ⟨k + 1, by go_num, by omega, rfl, hput, hb3⟩
  · obtain rfl : k = n1 := by omega
    rw [← Hfin.out] at hown
    obtain ⟨a3, c3, he3, hsa3, -, hcap3⟩ := hown.sa
    simp only [Value.slice.injEq] at he3
    obtain ⟨he3, -, he4⟩ := he3
    subst he3 he4
    have HJ1 := Lib.hid (HJ.out _ _ _ hsa3 hcap3)
    rw [show res.length = ws.length from Hlen.out] at HJ1
    clear HJ
    go_wp2_with fail
    refine HJ1.out.mono ?_
    rintro e w4 ⟨rfl, hb4⟩
    go_wp2_with fail
    go_ret
    exact ⟨rfl, below_next hb hb4⟩
end Go.Proofs.YthajoedabjfaaaaGreatDoor
