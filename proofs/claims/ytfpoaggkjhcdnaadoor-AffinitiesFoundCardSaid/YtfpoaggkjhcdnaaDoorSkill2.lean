/- How well a topic is known: best of the program, known of the reference. -/
import Derived.Test.YtfpoaggkjhcdnaaDoorSkill1
import Derived.Test.YtfpoaggkjhcdnaaDoorFrac3
import Derived.RegionTactic
import Derived.ChangeAlike
namespace Go.Proofs.YtfpoaggkjhcdnaaDoor
open Go.RowKit
set_option linter.unusedVariables false

def nearN (l : List Topic) (a b : ByteArray) : Int := if meetS l a b = ⟨#[]⟩ then 0 else lowN (2 * (ab l (meetS l a b)).length) ((ab l a).length + (ab l b).length)
def nearD (l : List Topic) (a b : ByteArray) : Int := if meetS l a b = ⟨#[]⟩ then 1 else lowD (2 * (ab l (meetS l a b)).length) ((ab l a).length + (ab l b).length)
theorem nearV_eq (l : List Topic) (a b : ByteArray) : nearV l a b = .agg #[.int .i64 (nearN l a b), .int .i64 (nearD l a b)] := by
  unfold nearV nearN nearD low
  split <;> rfl

theorem lowN_bd (m n : Int) (hm : 0 ≤ m) (hn : 1 ≤ n) : 0 ≤ lowN m n ∧ lowN m n ≤ m := by
  have hg := gcd_pos m n (by omega)
  unfold lowN
  exact ⟨Int.ediv_nonneg hm (by omega), Int.ediv_le_self _ hm⟩
theorem lowD_bd (m n : Int) (hn : 1 ≤ n) : 1 ≤ lowD m n ∧ lowD m n ≤ n := by
  have hg := gcd_pos m n (by omega)
  unfold lowD
  have hd : (Int.gcd m n : Int) ∣ n := Int.gcd_dvd_right ..
  obtain ⟨k, hk⟩ := hd
  have hk1 : n / (Int.gcd m n : Int) = k := Int.ediv_eq_of_eq_mul_right (by omega) hk
  refine ⟨?_, Int.ediv_le_self _ (by omega)⟩
  rw [hk1]
  rcases Int.lt_or_le k 1 with h | h
  · have : (Int.gcd m n : Int) * k ≤ (Int.gcd m n : Int) * 0 := Int.mul_le_mul_of_nonneg_left (by omega) (by omega)
    omega
  · exact h
theorem lowD_dvd (m n : Int) (hn : 1 ≤ n) : lowD m n ∣ n := by
  have hd : (Int.gcd m n : Int) ∣ n := Int.gcd_dvd_right ..
  exact Int.ediv_dvd_of_dvd hd

theorem near_bd (l : List Topic) (a b : ByteArray) (hlen : l.length ≤ 1000) (hp : 1 ≤ (ab l a).length) :
    0 ≤ nearN l a b ∧ nearN l a b ≤ 2002 ∧ 1 ≤ nearD l a b ∧ nearD l a b ≤ 2002 := by
  unfold nearN nearD
  split
  · omega
  · have h1 := ab_length l a
    have h2 := ab_length l b
    have h3 := ab_length l (meetS l a b)
    obtain ⟨e1, e2⟩ := lowN_bd (2 * (ab l (meetS l a b)).length) ((ab l a).length + (ab l b).length) (by omega) (by omega)
    obtain ⟨e3, e4⟩ := lowD_bd (2 * (ab l (meetS l a b)).length) ((ab l a).length + (ab l b).length) (by omega)
    omega

/-- A fraction by which a topic is known through a skill. -/
def partN (l : List Topic) (t : ByteArray) (x : Skill) : Int := lowN (x.2 * nearN l x.1 t) (100 * nearD l x.1 t)
def partD (l : List Topic) (t : ByteArray) (x : Skill) : Int := lowD (x.2 * nearN l x.1 t) (100 * nearD l x.1 t)
/-- By which skill, and how much. -/
abbrev Known := ByteArray × Int × Int
def bestStep (l : List Topic) (t : ByteArray) (o : Known) (x : Skill) : Known := if o.2.1 * partD l t x < partN l t x * o.2.2 then (x.1, partN l t x, partD l t x) else o
def bestOf (l : List Topic) (s : List Skill) (t : ByteArray) : Known := s.foldl (bestStep l t) (⟨#[]⟩, 0, 1)

theorem mul_bd2 {a b A B : Int} (h1 : 0 ≤ a) (h2 : a ≤ A) (h3 : 0 ≤ b) (h4 : b ≤ B) : 0 ≤ a * b ∧ a * b ≤ A * B :=
  ⟨Int.mul_nonneg h1 h3, Int.mul_le_mul h2 h4 h3 (by omega)⟩

/-- Skills that can be reckoned with. -/
def SkillOk (l : List Topic) (s : List Skill) : Prop := ∀ x ∈ s, 1 ≤ (ab l x.1).length ∧ 0 ≤ x.2 ∧ x.2 ≤ 100
theorem part_bd {l : List Topic} {x : Skill} (t : ByteArray) (hlen : l.length ≤ 1000) (h : 1 ≤ (ab l x.1).length ∧ 0 ≤ x.2 ∧ x.2 ≤ 100) :
    (0 ≤ x.2 * nearN l x.1 t ∧ x.2 * nearN l x.1 t ≤ 200200) ∧ (1 ≤ 100 * nearD l x.1 t ∧ 100 * nearD l x.1 t ≤ 200200) ∧ (0 ≤ partN l t x ∧ partN l t x ≤ 200200) ∧ (1 ≤ partD l t x ∧ partD l t x ≤ 200200) := by
  obtain ⟨h1, h2, h3⟩ := h
  obtain ⟨n1, n2, n3, n4⟩ := near_bd l x.1 t hlen h1
  obtain ⟨m1, m2⟩ := mul_bd2 h2 h3 n1 n2
  obtain ⟨e1, e2⟩ := lowN_bd (x.2 * nearN l x.1 t) (100 * nearD l x.1 t) m1 (by omega)
  obtain ⟨e3, e4⟩ := lowD_bd (x.2 * nearN l x.1 t) (100 * nearD l x.1 t) (by omega)
  unfold partN partD
  omega
def KnownBd (o : Known) : Prop := (0 ≤ o.2.1 ∧ o.2.1 ≤ 200200) ∧ (1 ≤ o.2.2 ∧ o.2.2 ≤ 200200)
theorem best_bd {l : List Topic} {s : List Skill} (t : ByteArray) (hlen : l.length ≤ 1000) (h : SkillOk l s) : KnownBd (bestOf l s t) := by
  unfold bestOf
  have : ∀ (s : List Skill) (o : Known), SkillOk l s → KnownBd o → KnownBd (s.foldl (bestStep l t) o) := by
    intro s
    induction s with
    | nil => intro o _ h; exact h
    | cons x r ih =>
      intro o hs ho
      rw [List.foldl_cons]
      refine ih _ (fun y hy => hs y (List.mem_cons_of_mem _ hy)) ?_
      unfold bestStep
      split
      · have := part_bd t hlen (hs x (List.mem_cons_self ..))
        exact ⟨this.2.2.1, this.2.2.2⟩
      · exact ho
  exact this s _ h ⟨by simp, by simp⟩
theorem best_snoc {l : List Topic} {s : List Skill} {t : ByteArray} {k : Nat} (hk : k < s.length) : bestOf l (s.take (k + 1)) t = bestStep l t (bestOf l (s.take k) t) s[k] := by
  unfold bestOf
  rw [List.take_succ_eq_append_getElem hk, List.foldl_append]
  rfl

/-- Because: a topic, and how it is known. -/
def becV (t : ByteArray) (o : Known) : Value := .agg #[.string t, .string o.1, .int .i64 o.2.1, .int .i64 o.2.2]
def becC (t : ByteArray) (o : Known) : Array Value := #[.string t, .string o.1, .int .i64 o.2.1, .int .i64 o.2.2]


set_option maxRecDepth 100000 in
set_option maxHeartbeats 4000000 in
theorem best_any (l : List Topic) (fb : Nat) (s : List Skill) (a2 : Option Addr) (cap2 : Nat) (t : ByteArray) (w : World) (hF : FMap w fb l l.length) (hs : SA w a2 s) (hlen : l.length ≤ 1000) (hsl : s.length ≤ 1000000) (hok : SkillOk l s) :
    Calls Tryd.prog 52 #[.map (some fb), .slice a2 s.length cap2, .string t] w (Gives (becV t (bestOf l s t)) w) := by
  go_enter Tryd.func52, Tryd.ntmps52
  go_wp2_with fail
  refine (zero_any _).mono ?_
  rintro e w0 ⟨rfl, hb0⟩
  have hz0 := hb0.size
  simp at hz0
  have hR := (Box.new w 60 #[.string ⟨#[]⟩, .string ⟨#[]⟩, .int .i64 0, .int .i64 0]).below hb0
  have hb0' : Below w.heap.size w w0 := by (repeat' (first | exact Below.refl _ _ | assumption | refine Below.setCell ?_ ?_ _ | refine below_drewN ?_ _ | refine Below.drew ?_ | refine Below.alloc ?_ ?_ _ | (with_reducible refine Below.trans ?_ (Below.mono hb ?_)) | (with_reducible refine Below.trans ?_ (Below.mono hb0 ?_)) | (with_reducible refine Below.trans ?_ (Below.mono hb1 ?_)) | (with_reducible refine Below.trans ?_ (Below.mono hb2 ?_)) | (with_reducible refine Below.trans ?_ (Below.mono hb3 ?_)) | (with_reducible refine Below.trans ?_ (Below.mono hb4 ?_)) | (with_reducible refine Below.trans ?_ (Below.mono hb5 ?_)) | (with_reducible refine Below.trans ?_ (Below.mono hb6 ?_)) | (with_reducible refine Below.trans ?_ (Below.mono hb7 ?_)) | (with_reducible refine Below.trans ?_ (Below.mono hb8 ?_)) | (with_reducible refine Below.trans ?_ (Below.mono hb9 ?_)) | (with_reducible refine Below.trans ?_ (Below.mono hb10 ?_)) | (with_reducible refine Below.trans ?_ (Below.mono hb11 ?_)) | (with_reducible refine Below.trans ?_ (Below.mono hb12 ?_)) | (with_reducible refine Below.trans ?_ (Below.mono hb13 ?_)) | (with_reducible refine Below.trans ?_ (Below.mono hb14 ?_)) | (with_reducible refine Below.trans ?_ (Below.mono hb15 ?_)) | omega | (simp; done) | (simp; omega)))
  go_wp2_with fail
  go_loopg [17] s.length (fun gk i wr => ∃ k : Nat, i = .int .i64 k ∧ k ≤ s.length ∧ Hid (gk = s.length - k) ∧ Box wr w.heap.size 60 #[.string ⟨#[]⟩, .string ⟨#[]⟩, .int .i64 0, .int .i64 0] ∧ Box wr (w0.heap.size) 60 (becC t (bestOf l (s.take k) t)) ∧ Below w.heap.size w wr)
  case atStart => exact ⟨0, rfl, by omega, rfl, hR.alloc _, Box.newAt _ _ _ _ (by simp), by (repeat' (first | exact Below.refl _ _ | assumption | refine Below.setCell ?_ ?_ _ | refine below_drewN ?_ _ | refine Below.drew ?_ | refine Below.alloc ?_ ?_ _ | (with_reducible refine Below.trans ?_ (Below.mono hb ?_)) | (with_reducible refine Below.trans ?_ (Below.mono hb0 ?_)) | (with_reducible refine Below.trans ?_ (Below.mono hb1 ?_)) | (with_reducible refine Below.trans ?_ (Below.mono hb2 ?_)) | (with_reducible refine Below.trans ?_ (Below.mono hb3 ?_)) | (with_reducible refine Below.trans ?_ (Below.mono hb4 ?_)) | (with_reducible refine Below.trans ?_ (Below.mono hb5 ?_)) | (with_reducible refine Below.trans ?_ (Below.mono hb6 ?_)) | (with_reducible refine Below.trans ?_ (Below.mono hb7 ?_)) | (with_reducible refine Below.trans ?_ (Below.mono hb8 ?_)) | (with_reducible refine Below.trans ?_ (Below.mono hb9 ?_)) | (with_reducible refine Below.trans ?_ (Below.mono hb10 ?_)) | (with_reducible refine Below.trans ?_ (Below.mono hb11 ?_)) | (with_reducible refine Below.trans ?_ (Below.mono hb12 ?_)) | (with_reducible refine Below.trans ?_ (Below.mono hb13 ?_)) | (with_reducible refine Below.trans ?_ (Below.mono hb14 ?_)) | (with_reducible refine Below.trans ?_ (Below.mono hb15 ?_)) | omega | (simp; done) | (simp; omega)))⟩
  case round =>
    clear hR
    obtain ⟨k, rfl, hk, hgk, hR, hO, hb⟩ := hrel
    have hz := hb.size
    have hO1 := hO.lt
    by_cases hlt : k < s.length
    · obtain ⟨b, off, ha, c0, c1⟩ := (hs.below hb).skill hlt
      have Hst := Lib.hid (best_snoc (l := l) (t := t) hlt)
      have hbd := best_bd (s := s.take k) t hlen (fun x hx => hok x (List.mem_of_mem_take hx))
      have hx := hok s[k] (List.getElem_mem hlt)
      have hpb := part_bd t hlen hx
      rw [ha]
      generalize s[k] = x at *
      generalize bestOf l (s.take k) t = o at *
      obtain ⟨x1, x2⟩ := x
      obtain ⟨o1, o2, o3⟩ := o
      unfold bestStep at Hst
      unfold partN partD at *
      unfold KnownBd at hbd
      unfold becC at hO
      have HN := Lib.hid (fun w h => near_any l fb x1 t w h (by omega) hx.1)
      simp only [nearV_eq] at HN
      simp only at c0 c1 hx hpb hbd hO Hst
      generalize nearN l x1 t = N at *
      generalize nearD l x1 t = D at *
      have HL := Lib.hid (fun w => lowest_any (x2 * N) (100 * D) w (by omega) (by omega) (by omega))
      unfold low at HL
      generalize lowN (x2 * N) (100 * D) = pn at *
      generalize lowD (x2 * N) (100 * D) = pd at *
      obtain ⟨⟨q1, q2⟩, ⟨q3, q4⟩, ⟨q5, q6⟩, q7, q8⟩ := hpb
      obtain ⟨⟨q9, q10⟩, q11, q12⟩ := hbd
      have hm1 := mul_bd2 q9 q10 (by omega : 0 ≤ pd) q8
      have hm2 := mul_bd2 q5 q6 (by omega : 0 ≤ o3) q12
      have HLs := Lib.hid (fun w => less_any o2 o3 pn pd w (by omega) (by omega) (by omega) (by omega))
      clear hx hm1 hm2
      go_wp2_with fail
      refine (HN.out _ ((hF.below hb).alloc _)).mono ?_
      rintro e w1 ⟨rfl, hb1⟩
      have hz1 := hb1.size
      simp at hz1
      have hS := (Box.new wr 87 #[.string x1, .int .i64 x2]).below hb1
      have hO2 := (hO.alloc (.cells #[.string x1, .int .i64 x2] 87)).below hb1
      have hR2 := (hR.alloc (.cells #[.string x1, .int .i64 x2] 87)).below hb1
      have hb1' : Below w.heap.size w w1 := by (repeat' (first | exact Below.refl _ _ | assumption | refine Below.setCell ?_ ?_ _ | refine below_drewN ?_ _ | refine Below.drew ?_ | refine Below.alloc ?_ ?_ _ | (with_reducible refine Below.trans ?_ (Below.mono hb ?_)) | (with_reducible refine Below.trans ?_ (Below.mono hb0 ?_)) | (with_reducible refine Below.trans ?_ (Below.mono hb1 ?_)) | (with_reducible refine Below.trans ?_ (Below.mono hb2 ?_)) | (with_reducible refine Below.trans ?_ (Below.mono hb3 ?_)) | (with_reducible refine Below.trans ?_ (Below.mono hb4 ?_)) | (with_reducible refine Below.trans ?_ (Below.mono hb5 ?_)) | (with_reducible refine Below.trans ?_ (Below.mono hb6 ?_)) | (with_reducible refine Below.trans ?_ (Below.mono hb7 ?_)) | (with_reducible refine Below.trans ?_ (Below.mono hb8 ?_)) | (with_reducible refine Below.trans ?_ (Below.mono hb9 ?_)) | (with_reducible refine Below.trans ?_ (Below.mono hb10 ?_)) | (with_reducible refine Below.trans ?_ (Below.mono hb11 ?_)) | (with_reducible refine Below.trans ?_ (Below.mono hb12 ?_)) | (with_reducible refine Below.trans ?_ (Below.mono hb13 ?_)) | (with_reducible refine Below.trans ?_ (Below.mono hb14 ?_)) | (with_reducible refine Below.trans ?_ (Below.mono hb15 ?_)) | omega | (simp; done) | (simp; omega)))
      have hS_l := hS.lt; have hS_0 := hS.cell 0; have hS_1 := hS.cell 1; simp at hS_0 hS_1
      go_wp2_with fail
      refine (HL.out _).mono ?_
      rintro e w2 ⟨rfl, hb2⟩
      have hz2 := hb2.size
      simp at hz2
      have hS2 := (hS.alloc (.cells #[.int .i64 N, .int .i64 D] 37)).below hb2
      have hO3 := (hO2.alloc (.cells #[.int .i64 N, .int .i64 D] 37)).below hb2
      have hR3 := (hR2.alloc (.cells #[.int .i64 N, .int .i64 D] 37)).below hb2
      have hb2' : Below w.heap.size w w2 := by (repeat' (first | exact Below.refl _ _ | assumption | refine Below.setCell ?_ ?_ _ | refine below_drewN ?_ _ | refine Below.drew ?_ | refine Below.alloc ?_ ?_ _ | (with_reducible refine Below.trans ?_ (Below.mono hb ?_)) | (with_reducible refine Below.trans ?_ (Below.mono hb0 ?_)) | (with_reducible refine Below.trans ?_ (Below.mono hb1 ?_)) | (with_reducible refine Below.trans ?_ (Below.mono hb2 ?_)) | (with_reducible refine Below.trans ?_ (Below.mono hb3 ?_)) | (with_reducible refine Below.trans ?_ (Below.mono hb4 ?_)) | (with_reducible refine Below.trans ?_ (Below.mono hb5 ?_)) | (with_reducible refine Below.trans ?_ (Below.mono hb6 ?_)) | (with_reducible refine Below.trans ?_ (Below.mono hb7 ?_)) | (with_reducible refine Below.trans ?_ (Below.mono hb8 ?_)) | (with_reducible refine Below.trans ?_ (Below.mono hb9 ?_)) | (with_reducible refine Below.trans ?_ (Below.mono hb10 ?_)) | (with_reducible refine Below.trans ?_ (Below.mono hb11 ?_)) | (with_reducible refine Below.trans ?_ (Below.mono hb12 ?_)) | (with_reducible refine Below.trans ?_ (Below.mono hb13 ?_)) | (with_reducible refine Below.trans ?_ (Below.mono hb14 ?_)) | (with_reducible refine Below.trans ?_ (Below.mono hb15 ?_)) | omega | (simp; done) | (simp; omega)))
      clear hS_l hS_0 hS_1
      clear hb1 hb2 hb1' hS hO hR hO2 hR2
      have hO3_l := hO3.lt; have hO3_0 := hO3.cell 0; have hO3_1 := hO3.cell 1; have hO3_2 := hO3.cell 2; have hO3_3 := hO3.cell 3; simp at hO3_0 hO3_1 hO3_2 hO3_3
      go_wp2_with fail
      refine (HLs.out _).mono ?_
      rintro e w3 ⟨rfl, hb3⟩
      have hz3 := hb3.size
      simp at hz3
      have hS3 := (hS2.alloc (.cells #[.int .i64 pn, .int .i64 pd] 37)).below hb3
      have hP3 := (Box.new w2 37 #[.int .i64 pn, .int .i64 pd]).below hb3
      have hO4 := (hO3.alloc (.cells #[.int .i64 pn, .int .i64 pd] 37)).below hb3
      have hR4 := (hR3.alloc (.cells #[.int .i64 pn, .int .i64 pd] 37)).below hb3
      have hb3' : Below w.heap.size w w3 := by (repeat' (first | exact Below.refl _ _ | assumption | refine Below.setCell ?_ ?_ _ | refine below_drewN ?_ _ | refine Below.drew ?_ | refine Below.alloc ?_ ?_ _ | (with_reducible refine Below.trans ?_ (Below.mono hb ?_)) | (with_reducible refine Below.trans ?_ (Below.mono hb0 ?_)) | (with_reducible refine Below.trans ?_ (Below.mono hb1 ?_)) | (with_reducible refine Below.trans ?_ (Below.mono hb2 ?_)) | (with_reducible refine Below.trans ?_ (Below.mono hb3 ?_)) | (with_reducible refine Below.trans ?_ (Below.mono hb4 ?_)) | (with_reducible refine Below.trans ?_ (Below.mono hb5 ?_)) | (with_reducible refine Below.trans ?_ (Below.mono hb6 ?_)) | (with_reducible refine Below.trans ?_ (Below.mono hb7 ?_)) | (with_reducible refine Below.trans ?_ (Below.mono hb8 ?_)) | (with_reducible refine Below.trans ?_ (Below.mono hb9 ?_)) | (with_reducible refine Below.trans ?_ (Below.mono hb10 ?_)) | (with_reducible refine Below.trans ?_ (Below.mono hb11 ?_)) | (with_reducible refine Below.trans ?_ (Below.mono hb12 ?_)) | (with_reducible refine Below.trans ?_ (Below.mono hb13 ?_)) | (with_reducible refine Below.trans ?_ (Below.mono hb14 ?_)) | (with_reducible refine Below.trans ?_ (Below.mono hb15 ?_)) | omega | (simp; done) | (simp; omega)))
      clear hO3_l hO3_0 hO3_1 hO3_2 hO3_3
      clear hb2' hb3 hS2 hO3 hR3
      by_cases hc : o2 * pd < pn * o3
      · rw [decide_eq_true hc]
        rw [if_pos hc] at Hst
        have hS3_l := hS3.lt; have hS3_0 := hS3.cell 0; have hS3_1 := hS3.cell 1; simp at hS3_0 hS3_1
        have hP3_l := hP3.lt; have hP3_0 := hP3.cell 0; have hP3_1 := hP3.cell 1; simp at hP3_0 hP3_1
        have hO4_f0 := hO4.frozen 0; have hO4_f1 := hO4.frozen 1; have hO4_f2 := hO4.frozen 2; have hO4_f3 := hO4.frozen 3
        have hO4_l := hO4.lt; have hO4_0 := hO4.cell 0; have hO4_1 := hO4.cell 1; have hO4_2 := hO4.cell 2; have hO4_3 := hO4.cell 3; simp at hO4_0 hO4_1 hO4_2 hO4_3
        clear hc
        go_wp2_with fail
        go_region
        all_goals
          go_wp2_with fail
          rw [← ha]
          go_roundg (s.length - (k + 1))
          case measure => have := hgk.out; omega
          case rel => exact ⟨k + 1, by go_num, by omega, rfl, (((hR4.setOther (show w0.heap.size ≠ w.heap.size by omega) _).setOther (show w0.heap.size ≠ w.heap.size by omega) _).setOther (show w0.heap.size ≠ w.heap.size by omega) _).drew, by rw [Hst.out]; exact (((hO4.set 1 _).set 2 _).set 3 _).drew, by (repeat' (first | exact Below.refl _ _ | assumption | refine Below.setCell ?_ ?_ _ | refine below_drewN ?_ _ | refine Below.drew ?_ | refine Below.alloc ?_ ?_ _ | (with_reducible refine Below.trans ?_ (Below.mono hb ?_)) | (with_reducible refine Below.trans ?_ (Below.mono hb0 ?_)) | (with_reducible refine Below.trans ?_ (Below.mono hb1 ?_)) | (with_reducible refine Below.trans ?_ (Below.mono hb2 ?_)) | (with_reducible refine Below.trans ?_ (Below.mono hb3 ?_)) | (with_reducible refine Below.trans ?_ (Below.mono hb4 ?_)) | (with_reducible refine Below.trans ?_ (Below.mono hb5 ?_)) | (with_reducible refine Below.trans ?_ (Below.mono hb6 ?_)) | (with_reducible refine Below.trans ?_ (Below.mono hb7 ?_)) | (with_reducible refine Below.trans ?_ (Below.mono hb8 ?_)) | (with_reducible refine Below.trans ?_ (Below.mono hb9 ?_)) | (with_reducible refine Below.trans ?_ (Below.mono hb10 ?_)) | (with_reducible refine Below.trans ?_ (Below.mono hb11 ?_)) | (with_reducible refine Below.trans ?_ (Below.mono hb12 ?_)) | (with_reducible refine Below.trans ?_ (Below.mono hb13 ?_)) | (with_reducible refine Below.trans ?_ (Below.mono hb14 ?_)) | (with_reducible refine Below.trans ?_ (Below.mono hb15 ?_)) | omega | (simp; done) | (simp; omega)))⟩
      · rw [decide_eq_false hc]
        rw [if_neg hc] at Hst
        clear hc
        go_wp2_with fail
        rw [← ha]
        go_roundg (s.length - (k + 1))
        case measure => have := hgk.out; omega
        case rel => exact ⟨k + 1, by go_num, by omega, rfl, hR4, by rw [Hst.out]; exact hO4, hb3'⟩
    · obtain rfl : k = s.length := by omega
      rw [List.take_length] at hO
      unfold becC at hO
      have hO_l := hO.lt; have hO_0 := hO.cell 0; have hO_1 := hO.cell 1; have hO_2 := hO.cell 2; have hO_3 := hO.cell 3; simp at hO_0 hO_1 hO_2 hO_3
      have hR_f0 := hR.frozen 0; have hR_f1 := hR.frozen 1; have hR_f2 := hR.frozen 2; have hR_f3 := hR.frozen 3
      have hR_l := hR.lt; have hR_0 := hR.cell 0; have hR_1 := hR.cell 1; have hR_2 := hR.cell 2; have hR_3 := hR.cell 3; simp at hR_0 hR_1 hR_2 hR_3
      go_wp2_with fail
      refine bodyPost_ret (v := .agg #[.string t, .string (bestOf l s t).1, .int .i64 (bestOf l s t).2.1, .int .i64 (bestOf l s t).2.2]) (by simp only [results, Tryd.results52]; go_simp) rfl ⟨rfl, ?_⟩
      (repeat' (first | exact Below.refl _ _ | assumption | refine Below.setCell ?_ ?_ _ | refine below_drewN ?_ _ | refine Below.drew ?_ | refine Below.alloc ?_ ?_ _ | (with_reducible refine Below.trans ?_ (Below.mono hb ?_)) | (with_reducible refine Below.trans ?_ (Below.mono hb0 ?_)) | (with_reducible refine Below.trans ?_ (Below.mono hb1 ?_)) | (with_reducible refine Below.trans ?_ (Below.mono hb2 ?_)) | (with_reducible refine Below.trans ?_ (Below.mono hb3 ?_)) | (with_reducible refine Below.trans ?_ (Below.mono hb4 ?_)) | (with_reducible refine Below.trans ?_ (Below.mono hb5 ?_)) | (with_reducible refine Below.trans ?_ (Below.mono hb6 ?_)) | (with_reducible refine Below.trans ?_ (Below.mono hb7 ?_)) | (with_reducible refine Below.trans ?_ (Below.mono hb8 ?_)) | (with_reducible refine Below.trans ?_ (Below.mono hb9 ?_)) | (with_reducible refine Below.trans ?_ (Below.mono hb10 ?_)) | (with_reducible refine Below.trans ?_ (Below.mono hb11 ?_)) | (with_reducible refine Below.trans ?_ (Below.mono hb12 ?_)) | (with_reducible refine Below.trans ?_ (Below.mono hb13 ?_)) | (with_reducible refine Below.trans ?_ (Below.mono hb14 ?_)) | (with_reducible refine Below.trans ?_ (Below.mono hb15 ?_)) | omega | (simp; done) | (simp; omega)))

theorem cmpZ_pos {x y : Int} (h : y < x) : cmpZ x y = 1 := by unfold cmpZ; rw [if_neg (by omega), if_pos h]
theorem cmpZ_neg {x y : Int} (h : ¬ y < x) : cmpZ x y ≤ 0 := by unfold cmpZ; rw [if_neg h]; split <;> omega

set_option maxRecDepth 100000 in
set_option maxHeartbeats 4000000 in
theorem knownR_any (l : List Topic) (a : Option Addr) (cap : Nat) (s : List Skill) (a2 : Option Addr) (cap2 : Nat) (t : ByteArray) (w : World) (hl : SA w a l) (hs : SA w a2 s) (hlen : l.length ≤ 1000) (hsl : s.length ≤ 1000000) (hok : SkillOk l s) :
    Calls Tryd.prog 53 #[.slice a l.length cap, .slice a2 s.length cap2, .string t] w (Gives (becV t (bestOf l s t)) w) := by
  have hR := Box.new w 60 #[.string ⟨#[]⟩, .string ⟨#[]⟩, .int .i64 0, .int .i64 0]
  go_enter Tryd.func53, Tryd.ntmps53
  go_wp2_with fail
  go_loopg [17] s.length (fun gk i wr => ∃ k : Nat, i = .int .i64 k ∧ k ≤ s.length ∧ Hid (gk = s.length - k) ∧ Box wr w.heap.size 60 #[.string ⟨#[]⟩, .string ⟨#[]⟩, .int .i64 0, .int .i64 0] ∧ Box wr (w.heap.size + 1) 60 (becC t (bestOf l (s.take k) t)) ∧ Below w.heap.size w wr)
  case atStart => exact ⟨0, rfl, by omega, rfl, hR.alloc _, Box.newAt _ _ _ _ (by simp), by (repeat' (first | exact Below.refl _ _ | assumption | refine Below.setCell ?_ ?_ _ | refine below_drewN ?_ _ | refine Below.drew ?_ | refine Below.alloc ?_ ?_ _ | (with_reducible refine Below.trans ?_ (Below.mono hb ?_)) | (with_reducible refine Below.trans ?_ (Below.mono hb0 ?_)) | (with_reducible refine Below.trans ?_ (Below.mono hb1 ?_)) | (with_reducible refine Below.trans ?_ (Below.mono hb2 ?_)) | (with_reducible refine Below.trans ?_ (Below.mono hb3 ?_)) | (with_reducible refine Below.trans ?_ (Below.mono hb4 ?_)) | (with_reducible refine Below.trans ?_ (Below.mono hb5 ?_)) | (with_reducible refine Below.trans ?_ (Below.mono hb6 ?_)) | (with_reducible refine Below.trans ?_ (Below.mono hb7 ?_)) | (with_reducible refine Below.trans ?_ (Below.mono hb8 ?_)) | (with_reducible refine Below.trans ?_ (Below.mono hb9 ?_)) | (with_reducible refine Below.trans ?_ (Below.mono hb10 ?_)) | (with_reducible refine Below.trans ?_ (Below.mono hb11 ?_)) | (with_reducible refine Below.trans ?_ (Below.mono hb12 ?_)) | (with_reducible refine Below.trans ?_ (Below.mono hb13 ?_)) | (with_reducible refine Below.trans ?_ (Below.mono hb14 ?_)) | (with_reducible refine Below.trans ?_ (Below.mono hb15 ?_)) | omega | (simp; done) | (simp; omega)))⟩
  case round =>
    clear hR
    obtain ⟨k, rfl, hk, hgk, hR, hO, hb⟩ := hrel
    have hz := hb.size
    have hO1 := hO.lt
    by_cases hlt : k < s.length
    · obtain ⟨b, off, ha, c0, c1⟩ := (hs.below hb).skill hlt
      have Hst := Lib.hid (best_snoc (l := l) (t := t) hlt)
      have hbd := best_bd (s := s.take k) t hlen (fun x hx => hok x (List.mem_of_mem_take hx))
      have hx := hok s[k] (List.getElem_mem hlt)
      have hpb := part_bd t hlen hx
      rw [ha]
      generalize s[k] = x at *
      generalize bestOf l (s.take k) t = o at *
      obtain ⟨x1, x2⟩ := x
      obtain ⟨o1, o2, o3⟩ := o
      unfold bestStep at Hst
      unfold partN partD at *
      unfold KnownBd at hbd
      unfold becC at hO
      have HN := Lib.hid (fun w h => nearOf_any l a cap x1 t w h (by omega) hx.1)
      simp only [nearV_eq] at HN
      simp only at c0 c1 hx hpb hbd hO Hst
      generalize nearN l x1 t = N at *
      generalize nearD l x1 t = D at *
      have HL := Lib.hid (fun w => part_any (x2 * N) (100 * D) w (by omega) (by omega) (by omega))
      unfold low at HL
      generalize lowN (x2 * N) (100 * D) = pn at *
      generalize lowD (x2 * N) (100 * D) = pd at *
      obtain ⟨⟨q1, q2⟩, ⟨q3, q4⟩, ⟨q5, q6⟩, q7, q8⟩ := hpb
      obtain ⟨⟨q9, q10⟩, q11, q12⟩ := hbd
      have hm1 := mul_bd2 q9 q10 (by omega : 0 ≤ pd) q8
      have hm2 := mul_bd2 q5 q6 (by omega : 0 ≤ o3) q12
      have HLs := Lib.hid (fun w => compareFractions_any pn pd o2 o3 w (by omega) (by omega) (by omega) (by omega))
      clear hx hm1 hm2
      go_wp2_with fail
      refine (HN.out _ ((hl.below hb).alloc _)).mono ?_
      rintro e w1 ⟨rfl, hb1⟩
      have hz1 := hb1.size
      simp at hz1
      have hS := (Box.new wr 87 #[.string x1, .int .i64 x2]).below hb1
      have hO2 := (hO.alloc (.cells #[.string x1, .int .i64 x2] 87)).below hb1
      have hR2 := (hR.alloc (.cells #[.string x1, .int .i64 x2] 87)).below hb1
      have hb1' : Below w.heap.size w w1 := by (repeat' (first | exact Below.refl _ _ | assumption | refine Below.setCell ?_ ?_ _ | refine below_drewN ?_ _ | refine Below.drew ?_ | refine Below.alloc ?_ ?_ _ | (with_reducible refine Below.trans ?_ (Below.mono hb ?_)) | (with_reducible refine Below.trans ?_ (Below.mono hb0 ?_)) | (with_reducible refine Below.trans ?_ (Below.mono hb1 ?_)) | (with_reducible refine Below.trans ?_ (Below.mono hb2 ?_)) | (with_reducible refine Below.trans ?_ (Below.mono hb3 ?_)) | (with_reducible refine Below.trans ?_ (Below.mono hb4 ?_)) | (with_reducible refine Below.trans ?_ (Below.mono hb5 ?_)) | (with_reducible refine Below.trans ?_ (Below.mono hb6 ?_)) | (with_reducible refine Below.trans ?_ (Below.mono hb7 ?_)) | (with_reducible refine Below.trans ?_ (Below.mono hb8 ?_)) | (with_reducible refine Below.trans ?_ (Below.mono hb9 ?_)) | (with_reducible refine Below.trans ?_ (Below.mono hb10 ?_)) | (with_reducible refine Below.trans ?_ (Below.mono hb11 ?_)) | (with_reducible refine Below.trans ?_ (Below.mono hb12 ?_)) | (with_reducible refine Below.trans ?_ (Below.mono hb13 ?_)) | (with_reducible refine Below.trans ?_ (Below.mono hb14 ?_)) | (with_reducible refine Below.trans ?_ (Below.mono hb15 ?_)) | omega | (simp; done) | (simp; omega)))
      have hS_l := hS.lt; have hS_0 := hS.cell 0; have hS_1 := hS.cell 1; simp at hS_0 hS_1
      go_wp2_with fail
      refine (HL.out _).mono ?_
      rintro e w2 ⟨rfl, hb2⟩
      have hz2 := hb2.size
      simp at hz2
      have hS2 := (hS.alloc (.cells #[.int .i64 N, .int .i64 D] 37)).below hb2
      have hO3 := (hO2.alloc (.cells #[.int .i64 N, .int .i64 D] 37)).below hb2
      have hR3 := (hR2.alloc (.cells #[.int .i64 N, .int .i64 D] 37)).below hb2
      have hb2' : Below w.heap.size w w2 := by (repeat' (first | exact Below.refl _ _ | assumption | refine Below.setCell ?_ ?_ _ | refine below_drewN ?_ _ | refine Below.drew ?_ | refine Below.alloc ?_ ?_ _ | (with_reducible refine Below.trans ?_ (Below.mono hb ?_)) | (with_reducible refine Below.trans ?_ (Below.mono hb0 ?_)) | (with_reducible refine Below.trans ?_ (Below.mono hb1 ?_)) | (with_reducible refine Below.trans ?_ (Below.mono hb2 ?_)) | (with_reducible refine Below.trans ?_ (Below.mono hb3 ?_)) | (with_reducible refine Below.trans ?_ (Below.mono hb4 ?_)) | (with_reducible refine Below.trans ?_ (Below.mono hb5 ?_)) | (with_reducible refine Below.trans ?_ (Below.mono hb6 ?_)) | (with_reducible refine Below.trans ?_ (Below.mono hb7 ?_)) | (with_reducible refine Below.trans ?_ (Below.mono hb8 ?_)) | (with_reducible refine Below.trans ?_ (Below.mono hb9 ?_)) | (with_reducible refine Below.trans ?_ (Below.mono hb10 ?_)) | (with_reducible refine Below.trans ?_ (Below.mono hb11 ?_)) | (with_reducible refine Below.trans ?_ (Below.mono hb12 ?_)) | (with_reducible refine Below.trans ?_ (Below.mono hb13 ?_)) | (with_reducible refine Below.trans ?_ (Below.mono hb14 ?_)) | (with_reducible refine Below.trans ?_ (Below.mono hb15 ?_)) | omega | (simp; done) | (simp; omega)))
      clear hS_l hS_0 hS_1
      clear hb1 hb2 hb1' hS hO hR hO2 hR2
      have hO3_l := hO3.lt; have hO3_0 := hO3.cell 0; have hO3_1 := hO3.cell 1; have hO3_2 := hO3.cell 2; have hO3_3 := hO3.cell 3; simp at hO3_0 hO3_1 hO3_2 hO3_3
      go_wp2_with fail
      refine (HLs.out _).mono ?_
      rintro e w3 ⟨rfl, hb3⟩
      have hz3 := hb3.size
      simp at hz3
      have hS3 := (hS2.alloc (.cells #[.int .i64 pn, .int .i64 pd] 37)).below hb3
      have hP3 := (Box.new w2 37 #[.int .i64 pn, .int .i64 pd]).below hb3
      have hO4 := (hO3.alloc (.cells #[.int .i64 pn, .int .i64 pd] 37)).below hb3
      have hR4 := (hR3.alloc (.cells #[.int .i64 pn, .int .i64 pd] 37)).below hb3
      have hb3' : Below w.heap.size w w3 := by (repeat' (first | exact Below.refl _ _ | assumption | refine Below.setCell ?_ ?_ _ | refine below_drewN ?_ _ | refine Below.drew ?_ | refine Below.alloc ?_ ?_ _ | (with_reducible refine Below.trans ?_ (Below.mono hb ?_)) | (with_reducible refine Below.trans ?_ (Below.mono hb0 ?_)) | (with_reducible refine Below.trans ?_ (Below.mono hb1 ?_)) | (with_reducible refine Below.trans ?_ (Below.mono hb2 ?_)) | (with_reducible refine Below.trans ?_ (Below.mono hb3 ?_)) | (with_reducible refine Below.trans ?_ (Below.mono hb4 ?_)) | (with_reducible refine Below.trans ?_ (Below.mono hb5 ?_)) | (with_reducible refine Below.trans ?_ (Below.mono hb6 ?_)) | (with_reducible refine Below.trans ?_ (Below.mono hb7 ?_)) | (with_reducible refine Below.trans ?_ (Below.mono hb8 ?_)) | (with_reducible refine Below.trans ?_ (Below.mono hb9 ?_)) | (with_reducible refine Below.trans ?_ (Below.mono hb10 ?_)) | (with_reducible refine Below.trans ?_ (Below.mono hb11 ?_)) | (with_reducible refine Below.trans ?_ (Below.mono hb12 ?_)) | (with_reducible refine Below.trans ?_ (Below.mono hb13 ?_)) | (with_reducible refine Below.trans ?_ (Below.mono hb14 ?_)) | (with_reducible refine Below.trans ?_ (Below.mono hb15 ?_)) | omega | (simp; done) | (simp; omega)))
      clear hO3_l hO3_0 hO3_1 hO3_2 hO3_3
      clear hb2' hb3 hS2 hO3 hR3
      by_cases hc : o2 * pd < pn * o3
      · rw [cmpZ_pos hc]
        rw [if_pos hc] at Hst
        have hS3_l := hS3.lt; have hS3_0 := hS3.cell 0; have hS3_1 := hS3.cell 1; simp at hS3_0 hS3_1
        have hP3_l := hP3.lt; have hP3_0 := hP3.cell 0; have hP3_1 := hP3.cell 1; simp at hP3_0 hP3_1
        have hO4_f0 := hO4.frozen 0; have hO4_f1 := hO4.frozen 1; have hO4_f2 := hO4.frozen 2; have hO4_f3 := hO4.frozen 3
        have hO4_l := hO4.lt; have hO4_0 := hO4.cell 0; have hO4_1 := hO4.cell 1; have hO4_2 := hO4.cell 2; have hO4_3 := hO4.cell 3; simp at hO4_0 hO4_1 hO4_2 hO4_3
        clear hc
        go_wp2_with fail
        go_region
        all_goals
          go_wp2_with fail
          rw [← ha]
          go_roundg (s.length - (k + 1))
          case measure => have := hgk.out; omega
          case rel => exact ⟨k + 1, by go_num, by omega, rfl, (((hR4.setOther (show w.heap.size + 1 ≠ w.heap.size by omega) _).setOther (show w.heap.size + 1 ≠ w.heap.size by omega) _).setOther (show w.heap.size + 1 ≠ w.heap.size by omega) _).drew, by rw [Hst.out]; exact (((hO4.set 2 _).set 3 _).set 1 _).drew, by (repeat' (first | exact Below.refl _ _ | assumption | refine Below.setCell ?_ ?_ _ | refine below_drewN ?_ _ | refine Below.drew ?_ | refine Below.alloc ?_ ?_ _ | (with_reducible refine Below.trans ?_ (Below.mono hb ?_)) | (with_reducible refine Below.trans ?_ (Below.mono hb0 ?_)) | (with_reducible refine Below.trans ?_ (Below.mono hb1 ?_)) | (with_reducible refine Below.trans ?_ (Below.mono hb2 ?_)) | (with_reducible refine Below.trans ?_ (Below.mono hb3 ?_)) | (with_reducible refine Below.trans ?_ (Below.mono hb4 ?_)) | (with_reducible refine Below.trans ?_ (Below.mono hb5 ?_)) | (with_reducible refine Below.trans ?_ (Below.mono hb6 ?_)) | (with_reducible refine Below.trans ?_ (Below.mono hb7 ?_)) | (with_reducible refine Below.trans ?_ (Below.mono hb8 ?_)) | (with_reducible refine Below.trans ?_ (Below.mono hb9 ?_)) | (with_reducible refine Below.trans ?_ (Below.mono hb10 ?_)) | (with_reducible refine Below.trans ?_ (Below.mono hb11 ?_)) | (with_reducible refine Below.trans ?_ (Below.mono hb12 ?_)) | (with_reducible refine Below.trans ?_ (Below.mono hb13 ?_)) | (with_reducible refine Below.trans ?_ (Below.mono hb14 ?_)) | (with_reducible refine Below.trans ?_ (Below.mono hb15 ?_)) | omega | (simp; done) | (simp; omega)))⟩
      · have hcz := cmpZ_neg hc; generalize cmpZ (pn * o3) (o2 * pd) = cz at *
        rw [if_neg hc] at Hst
        clear hc
        go_wp2_with fail
        rw [← ha]
        go_roundg (s.length - (k + 1))
        case measure => have := hgk.out; omega
        case rel => exact ⟨k + 1, by go_num, by omega, rfl, hR4, by rw [Hst.out]; exact hO4, hb3'⟩
    · obtain rfl : k = s.length := by omega
      rw [List.take_length] at hO
      unfold becC at hO
      have hO_l := hO.lt; have hO_0 := hO.cell 0; have hO_1 := hO.cell 1; have hO_2 := hO.cell 2; have hO_3 := hO.cell 3; simp at hO_0 hO_1 hO_2 hO_3
      have hR_f0 := hR.frozen 0; have hR_f1 := hR.frozen 1; have hR_f2 := hR.frozen 2; have hR_f3 := hR.frozen 3
      have hR_l := hR.lt; have hR_0 := hR.cell 0; have hR_1 := hR.cell 1; have hR_2 := hR.cell 2; have hR_3 := hR.cell 3; simp at hR_0 hR_1 hR_2 hR_3
      go_wp2_with fail
      refine bodyPost_ret (v := .agg #[.string t, .string (bestOf l s t).1, .int .i64 (bestOf l s t).2.1, .int .i64 (bestOf l s t).2.2]) (by simp only [results, Tryd.results53]; go_simp) rfl ⟨rfl, ?_⟩
      (repeat' (first | exact Below.refl _ _ | assumption | refine Below.setCell ?_ ?_ _ | refine below_drewN ?_ _ | refine Below.drew ?_ | refine Below.alloc ?_ ?_ _ | (with_reducible refine Below.trans ?_ (Below.mono hb ?_)) | (with_reducible refine Below.trans ?_ (Below.mono hb0 ?_)) | (with_reducible refine Below.trans ?_ (Below.mono hb1 ?_)) | (with_reducible refine Below.trans ?_ (Below.mono hb2 ?_)) | (with_reducible refine Below.trans ?_ (Below.mono hb3 ?_)) | (with_reducible refine Below.trans ?_ (Below.mono hb4 ?_)) | (with_reducible refine Below.trans ?_ (Below.mono hb5 ?_)) | (with_reducible refine Below.trans ?_ (Below.mono hb6 ?_)) | (with_reducible refine Below.trans ?_ (Below.mono hb7 ?_)) | (with_reducible refine Below.trans ?_ (Below.mono hb8 ?_)) | (with_reducible refine Below.trans ?_ (Below.mono hb9 ?_)) | (with_reducible refine Below.trans ?_ (Below.mono hb10 ?_)) | (with_reducible refine Below.trans ?_ (Below.mono hb11 ?_)) | (with_reducible refine Below.trans ?_ (Below.mono hb12 ?_)) | (with_reducible refine Below.trans ?_ (Below.mono hb13 ?_)) | (with_reducible refine Below.trans ?_ (Below.mono hb14 ?_)) | (with_reducible refine Below.trans ?_ (Below.mono hb15 ?_)) | omega | (simp; done) | (simp; omega)))
end Go.Proofs.YtfpoaggkjhcdnaaDoor
