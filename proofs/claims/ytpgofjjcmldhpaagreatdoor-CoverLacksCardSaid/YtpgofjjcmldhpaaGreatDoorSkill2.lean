/- How well a topic is known: best of the program, known of the reference. -/
import Derived.Test.YtpgofjjcmldhpaaGreatDoorLowP
import Derived.Test.YtpgofjjcmldhpaaGreatDoorSkill1
import Derived.Test.YtpgofjjcmldhpaaGreatDoorFrac
import Derived.RegionTactic
import Derived.ChangeAlike
import Derived.Test.YtpgofjjcmldhpaaGreatDoorReg
import Derived.Deep.RegionWith
/-! How well a topic is known: best of the program, known of the reference. -/
namespace Go.Proofs.YtpgofjjcmldhpaaGreatDoor
open Go.RowKit
set_option linter.unusedVariables false

def nearN (l : List Topic) (a b : ByteArray) : Int := if meetS l a b = ⟨#[]⟩ then 0 else lowN (2 * (ab l (meetS l a b)).length) ((ab l a).length + (ab l b).length)
def nearD (l : List Topic) (a b : ByteArray) : Int := if meetS l a b = ⟨#[]⟩ then 1 else lowD (2 * (ab l (meetS l a b)).length) ((ab l a).length + (ab l b).length)
theorem nearV_eq (l : List Topic) (a b : ByteArray) : nearV l a b = .agg #[.int .i64 (nearN l a b), .int .i64 (nearD l a b)] := by
  unfold nearV nearN nearD low
  split <;> rfl

theorem lowD_dvd (m n : Int) (hn : 1 ≤ n) : lowD m n ∣ n := by
  have hd : (Int.gcd m n : Int) ∣ n := Int.gcd_dvd_right ..
  exact Int.ediv_dvd_of_dvd hd

theorem near_bd (l : List Topic) (a b : ByteArray) (hlen : l.length ≤ 1000) (hp : 1 ≤ (ab l a).length) :
    0 ≤ nearN l a b ∧ nearN l a b ≤ 2002 ∧ 1 ≤ nearD l a b ∧ nearD l a b ≤ 2002 := by
  unfold nearN nearD
  split
  · omega
  · have h1 := ab_length l a
    have h2 := ab_length l b
    have h3 := ab_length l (meetS l a b)
    obtain ⟨e1, e2⟩ := lowN_bd (2 * (ab l (meetS l a b)).length) ((ab l a).length + (ab l b).length) (by omega) (by omega)
    obtain ⟨e3, e4⟩ := lowD_bd (2 * (ab l (meetS l a b)).length) ((ab l a).length + (ab l b).length) (by omega)
    omega

/-- A fraction by which a topic is known through a skill. -/
def partN (l : List Topic) (t : ByteArray) (x : Skill) : Int := lowN (x.2 * nearN l x.1 t) (100 * nearD l x.1 t)
def partD (l : List Topic) (t : ByteArray) (x : Skill) : Int := lowD (x.2 * nearN l x.1 t) (100 * nearD l x.1 t)
/-- By which skill, and how much. -/
abbrev Known := ByteArray × Int × Int
def bestStep (l : List Topic) (t : ByteArray) (o : Known) (x : Skill) : Known := if o.2.1 * partD l t x < partN l t x * o.2.2 then (x.1, partN l t x, partD l t x) else o
def bestOf (l : List Topic) (s : List Skill) (t : ByteArray) : Known := s.foldl (bestStep l t) (⟨#[]⟩, 0, 1)

theorem mul_bd2 {a b A B : Int} (h1 : 0 ≤ a) (h2 : a ≤ A) (h3 : 0 ≤ b) (h4 : b ≤ B) : 0 ≤ a * b ∧ a * b ≤ A * B :=
  ⟨Int.mul_nonneg h1 h3, Int.mul_le_mul h2 h4 h3 (by omega)⟩

/-- Skills that can be reckoned with. -/
def SkillOk (l : List Topic) (s : List Skill) : Prop := ∀ x ∈ s, 1 ≤ (ab l x.1).length ∧ 0 ≤ x.2 ∧ x.2 ≤ 100
theorem part_bd {l : List Topic} {x : Skill} (t : ByteArray) (hlen : l.length ≤ 1000) (h : 1 ≤ (ab l x.1).length ∧ 0 ≤ x.2 ∧ x.2 ≤ 100) :
    (0 ≤ x.2 * nearN l x.1 t ∧ x.2 * nearN l x.1 t ≤ 200200) ∧ (1 ≤ 100 * nearD l x.1 t ∧ 100 * nearD l x.1 t ≤ 200200) ∧ (0 ≤ partN l t x ∧ partN l t x ≤ 200200) ∧ (1 ≤ partD l t x ∧ partD l t x ≤ 200200) := by
  obtain ⟨h1, h2, h3⟩ := h
  obtain ⟨n1, n2, n3, n4⟩ := near_bd l x.1 t hlen h1
  obtain ⟨m1, m2⟩ := mul_bd2 h2 h3 n1 n2
  obtain ⟨e1, e2⟩ := lowN_bd (x.2 * nearN l x.1 t) (100 * nearD l x.1 t) m1 (by omega)
  obtain ⟨e3, e4⟩ := lowD_bd (x.2 * nearN l x.1 t) (100 * nearD l x.1 t) (by omega)
  unfold partN partD
  omega
def KnownBd (o : Known) : Prop := (0 ≤ o.2.1 ∧ o.2.1 ≤ 200200) ∧ (1 ≤ o.2.2 ∧ o.2.2 ≤ 200200)
theorem best_bd {l : List Topic} {s : List Skill} (t : ByteArray) (hlen : l.length ≤ 1000) (h : SkillOk l s) : KnownBd (bestOf l s t) := by
  unfold bestOf
  have : ∀ (s : List Skill) (o : Known), SkillOk l s → KnownBd o → KnownBd (s.foldl (bestStep l t) o) := by
    intro s
    induction s with
    | nil => intro o _ h; exact h
    | cons x r ih =>
      intro o hs ho
      rw [List.foldl_cons]
      refine ih _ (fun y hy => hs y (List.mem_cons_of_mem _ hy)) ?_
      unfold bestStep
      split
      · have := part_bd t hlen (hs x (List.mem_cons_self ..))
        exact ⟨this.2.2.1, this.2.2.2⟩
      · exact ho
  exact this s _ h ⟨by simp, by simp⟩
theorem best_snoc {l : List Topic} {s : List Skill} {t : ByteArray} {k : Nat} (hk : k < s.length) : bestOf l (s.take (k + 1)) t = bestStep l t (bestOf l (s.take k) t) s[k] := by
  unfold bestOf
  rw [List.take_succ_eq_append_getElem hk, List.foldl_append]
  rfl

/-- Because: a topic, and how it is known. -/
def becV (t : ByteArray) (o : Known) : Value := .agg #[.string t, .string o.1, .int .i64 o.2.1, .int .i64 o.2.2]
def becC (t : ByteArray) (o : Known) : Array Value := #[.string t, .string o.1, .int .i64 o.2.1, .int .i64 o.2.2]


set_option maxRecDepth 100000 in
set_option maxHeartbeats 4000000 in
theorem best_any (l : List Topic) (fb : Nat) (s : List Skill) (a2 : Option Addr) (cap2 : Nat) (t : ByteArray) (w : World) (hF : FMap w fb l l.length) (hs : SA w a2 s) (hlen : l.length ≤ 1000) (hsl : s.length ≤ 1000000) (hok : SkillOk l s) :
    Calls Tryz.prog 87 #[.map (some fb), .slice a2 s.length cap2, .string t] w (Gives (becV t (bestOf l s t)) w) := by
  go_enter Tryz.func87, Tryz.ntmps87
  go_wp2_with fail
  refine (zero_any _).mono ?_
  rintro e w0 ⟨rfl, hb0⟩
  have hz0 := hb0.size
  simp at hz0
  have hR := (Box.new w 132 #[.string ⟨#[]⟩, .string ⟨#[]⟩, .int .i64 0, .int .i64 0]).below hb0
  have hb0' : Below w.heap.size w w0 := by (repeat' (first | exact Below.refl _ _ | assumption | refine Below.setCell ?_ ?_ _ | refine below_drewN ?_ _ | refine Below.drew ?_ | refine Below.alloc ?_ ?_ _ | (with_reducible refine Below.trans ?_ (Below.mono hb ?_)) | (with_reducible refine Below.trans ?_ (Below.mono hb0 ?_)) | (with_reducible refine Below.trans ?_ (Below.mono hb1 ?_)) | (with_reducible refine Below.trans ?_ (Below.mono hb2 ?_)) | (with_reducible refine Below.trans ?_ (Below.mono hb3 ?_)) | (with_reducible refine Below.trans ?_ (Below.mono hb4 ?_)) | (with_reducible refine Below.trans ?_ (Below.mono hb5 ?_)) | (with_reducible refine Below.trans ?_ (Below.mono hb6 ?_)) | (with_reducible refine Below.trans ?_ (Below.mono hb7 ?_)) | (with_reducible refine Below.trans ?_ (Below.mono hb8 ?_)) | (with_reducible refine Below.trans ?_ (Below.mono hb9 ?_)) | (with_reducible refine Below.trans ?_ (Below.mono hb10 ?_)) | (with_reducible refine Below.trans ?_ (Below.mono hb11 ?_)) | (with_reducible refine Below.trans ?_ (Below.mono hb12 ?_)) | (with_reducible refine Below.trans ?_ (Below.mono hb13 ?_)) | (with_reducible refine Below.trans ?_ (Below.mono hb14 ?_)) | (with_reducible refine Below.trans ?_ (Below.mono hb15 ?_)) | omega | (simp; done) | (simp; omega)))
  go_wp2_with fail
  go_loopg [17] s.length (fun gk i wr => ∃ k : Nat, i = .int .i64 k ∧ k ≤ s.length ∧ Hid (gk = s.length - k) ∧ Box wr w.heap.size 132 #[.string ⟨#[]⟩, .string ⟨#[]⟩, .int .i64 0, .int .i64 0] ∧ Box wr (w0.heap.size) 132 (becC t (bestOf l (s.take k) t)) ∧ Below w.heap.size w wr)
  case atStart => exact ⟨0, rfl, by omega, rfl, hR.alloc _, Box.newAt _ _ _ _ (by simp), by (repeat' (first | exact Below.refl _ _ | assumption | refine Below.setCell ?_ ?_ _ | refine below_drewN ?_ _ | refine Below.drew ?_ | refine Below.alloc ?_ ?_ _ | (with_reducible refine Below.trans ?_ (Below.mono hb ?_)) | (with_reducible refine Below.trans ?_ (Below.mono hb0 ?_)) | (with_reducible refine Below.trans ?_ (Below.mono hb1 ?_)) | (with_reducible refine Below.trans ?_ (Below.mono hb2 ?_)) | (with_reducible refine Below.trans ?_ (Below.mono hb3 ?_)) | (with_reducible refine Below.trans ?_ (Below.mono hb4 ?_)) | (with_reducible refine Below.trans ?_ (Below.mono hb5 ?_)) | (with_reducible refine Below.trans ?_ (Below.mono hb6 ?_)) | (with_reducible refine Below.trans ?_ (Below.mono hb7 ?_)) | (with_reducible refine Below.trans ?_ (Below.mono hb8 ?_)) | (with_reducible refine Below.trans ?_ (Below.mono hb9 ?_)) | (with_reducible refine Below.trans ?_ (Below.mono hb10 ?_)) | (with_reducible refine Below.trans ?_ (Below.mono hb11 ?_)) | (with_reducible refine Below.trans ?_ (Below.mono hb12 ?_)) | (with_reducible refine Below.trans ?_ (Below.mono hb13 ?_)) | (with_reducible refine Below.trans ?_ (Below.mono hb14 ?_)) | (with_reducible refine Below.trans ?_ (Below.mono hb15 ?_)) | omega | (simp; done) | (simp; omega)))⟩
  case round =>
    clear hR
    obtain ⟨k, rfl, hk, hgk, hR, hO, hb⟩ := hrel
    have hz := hb.size
    have hO1 := hO.lt
    by_cases hlt : k < s.length
    · obtain ⟨b, off, ha, c0, c1⟩ := (hs.below hb).skill hlt
      have Hst := Lib.hid (best_snoc (l := l) (t := t) hlt)
      have hbd := best_bd (s := s.take k) t hlen (fun x hx => hok x (List.mem_of_mem_take hx))
      have hx := hok s[k] (List.getElem_mem hlt)
      have hpb := part_bd t hlen hx
      rw [ha]
      generalize s[k] = x at *
      generalize bestOf l (s.take k) t = o at *
      obtain ⟨x1, x2⟩ := x
      obtain ⟨o1, o2, o3⟩ := o
      unfold bestStep at Hst
      unfold partN partD at *
      unfold KnownBd at hbd
      unfold becC at hO
      have HN := Lib.hid (fun w h => near_any l fb x1 t w h (by omega) hx.1)
      simp only [nearV_eq] at HN
      simp only at c0 c1 hx hpb hbd hO Hst
      generalize nearN l x1 t = N at *
      generalize nearD l x1 t = D at *
      have HL := Lib.hid (fun w => lowest_any (x2 * N) (100 * D) w (by omega) (by omega) (by omega))
      unfold low at HL
      generalize lowN (x2 * N) (100 * D) = pn at *
      generalize lowD (x2 * N) (100 * D) = pd at *
      obtain ⟨⟨q1, q2⟩, ⟨q3, q4⟩, ⟨q5, q6⟩, q7, q8⟩ := hpb
      obtain ⟨⟨q9, q10⟩, q11, q12⟩ := hbd
      have hm1 := mul_bd2 q9 q10 (by omega : 0 ≤ pd) q8
      have hm2 := mul_bd2 q5 q6 (by omega : 0 ≤ o3) q12
      have HLs := Lib.hid (fun w => less_any o2 o3 pn pd w (by omega) (by omega) (by omega) (by omega))
      clear hx hm1 hm2
      go_wp2_with fail
      refine (HN.out _ ((hF.below hb).alloc _)).mono ?_
      rintro e w1 ⟨rfl, hb1⟩
      have hz1 := hb1.size
      simp at hz1
      have hS := (Box.new wr 139 #[.string x1, .int .i64 x2]).below hb1
      have hO2 := (hO.alloc (.cells #[.string x1, .int .i64 x2] 139)).below hb1
      have hR2 := (hR.alloc (.cells #[.string x1, .int .i64 x2] 139)).below hb1
      have hb1' : Below w.heap.size w w1 := by (repeat' (first | exact Below.refl _ _ | assumption | refine Below.setCell ?_ ?_ _ | refine below_drewN ?_ _ | refine Below.drew ?_ | refine Below.alloc ?_ ?_ _ | (with_reducible refine Below.trans ?_ (Below.mono hb ?_)) | (with_reducible refine Below.trans ?_ (Below.mono hb0 ?_)) | (with_reducible refine Below.trans ?_ (Below.mono hb1 ?_)) | (with_reducible refine Below.trans ?_ (Below.mono hb2 ?_)) | (with_reducible refine Below.trans ?_ (Below.mono hb3 ?_)) | (with_reducible refine Below.trans ?_ (Below.mono hb4 ?_)) | (with_reducible refine Below.trans ?_ (Below.mono hb5 ?_)) | (with_reducible refine Below.trans ?_ (Below.mono hb6 ?_)) | (with_reducible refine Below.trans ?_ (Below.mono hb7 ?_)) | (with_reducible refine Below.trans ?_ (Below.mono hb8 ?_)) | (with_reducible refine Below.trans ?_ (Below.mono hb9 ?_)) | (with_reducible refine Below.trans ?_ (Below.mono hb10 ?_)) | (with_reducible refine Below.trans ?_ (Below.mono hb11 ?_)) | (with_reducible refine Below.trans ?_ (Below.mono hb12 ?_)) | (with_reducible refine Below.trans ?_ (Below.mono hb13 ?_)) | (with_reducible refine Below.trans ?_ (Below.mono hb14 ?_)) | (with_reducible refine Below.trans ?_ (Below.mono hb15 ?_)) | omega | (simp; done) | (simp; omega)))
      have hS_l := hS.lt; have hS_0 := hS.cell 0; have hS_1 := hS.cell 1; simp at hS_0 hS_1
      go_wp2_with fail
      refine (HL.out _).mono ?_
      rintro e w2 ⟨rfl, hb2⟩
      have hz2 := hb2.size
      simp at hz2
      have hS2 := (hS.alloc (.cells #[.int .i64 N, .int .i64 D] 37)).below hb2
      have hO3 := (hO2.alloc (.cells #[.int .i64 N, .int .i64 D] 37)).below hb2
      have hR3 := (hR2.alloc (.cells #[.int .i64 N, .int .i64 D] 37)).below hb2
      have hb2' : Below w.heap.size w w2 := by (repeat' (first | exact Below.refl _ _ | assumption | refine Below.setCell ?_ ?_ _ | refine below_drewN ?_ _ | refine Below.drew ?_ | refine Below.alloc ?_ ?_ _ | (with_reducible refine Below.trans ?_ (Below.mono hb ?_)) | (with_reducible refine Below.trans ?_ (Below.mono hb0 ?_)) | (with_reducible refine Below.trans ?_ (Below.mono hb1 ?_)) | (with_reducible refine Below.trans ?_ (Below.mono hb2 ?_)) | (with_reducible refine Below.trans ?_ (Below.mono hb3 ?_)) | (with_reducible refine Below.trans ?_ (Below.mono hb4 ?_)) | (with_reducible refine Below.trans ?_ (Below.mono hb5 ?_)) | (with_reducible refine Below.trans ?_ (Below.mono hb6 ?_)) | (with_reducible refine Below.trans ?_ (Below.mono hb7 ?_)) | (with_reducible refine Below.trans ?_ (Below.mono hb8 ?_)) | (with_reducible refine Below.trans ?_ (Below.mono hb9 ?_)) | (with_reducible refine Below.trans ?_ (Below.mono hb10 ?_)) | (with_reducible refine Below.trans ?_ (Below.mono hb11 ?_)) | (with_reducible refine Below.trans ?_ (Below.mono hb12 ?_)) | (with_reducible refine Below.trans ?_ (Below.mono hb13 ?_)) | (with_reducible refine Below.trans ?_ (Below.mono hb14 ?_)) | (with_reducible refine Below.trans ?_ (Below.mono hb15 ?_)) | omega | (simp; done) | (simp; omega)))
      clear hS_l hS_0 hS_1
      clear hb1 hb2 hb1' hS hO hR hO2 hR2
      have hO3_l := hO3.lt; have hO3_0 := hO3.cell 0; have hO3_1 := hO3.cell 1; have hO3_2 := hO3.cell 2; have hO3_3 := hO3.cell 3; simp at hO3_0 hO3_1 hO3_2 hO3_3
      go_wp2_with fail
      refine (HLs.out _).mono ?_
      rintro e w3 ⟨rfl, hb3⟩
      have hz3 := hb3.size
      simp at hz3
      have hS3 := (hS2.alloc (.cells #[.int .i64 pn, .int .i64 pd] 37)).below hb3
      have hP3 := (Box.new w2 37 #[.int .i64 pn, .int .i64 pd]).below hb3
      have hO4 := (hO3.alloc (.cells #[.int .i64 pn, .int .i64 pd] 37)).below hb3
      have hR4 := (hR3.alloc (.cells #[.int .i64 pn, .int .i64 pd] 37)).below hb3
      have hb3' : Below w.heap.size w w3 := by (repeat' (first | exact Below.refl _ _ | assumption | refine Below.setCell ?_ ?_ _ | refine below_drewN ?_ _ | refine Below.drew ?_ | refine Below.alloc ?_ ?_ _ | (with_reducible refine Below.trans ?_ (Below.mono hb ?_)) | (with_reducible refine Below.trans ?_ (Below.mono hb0 ?_)) | (with_reducible refine Below.trans ?_ (Below.mono hb1 ?_)) | (with_reducible refine Below.trans ?_ (Below.mono hb2 ?_)) | (with_reducible refine Below.trans ?_ (Below.mono hb3 ?_)) | (with_reducible refine Below.trans ?_ (Below.mono hb4 ?_)) | (with_reducible refine Below.trans ?_ (Below.mono hb5 ?_)) | (with_reducible refine Below.trans ?_ (Below.mono hb6 ?_)) | (with_reducible refine Below.trans ?_ (Below.mono hb7 ?_)) | (with_reducible refine Below.trans ?_ (Below.mono hb8 ?_)) | (with_reducible refine Below.trans ?_ (Below.mono hb9 ?_)) | (with_reducible refine Below.trans ?_ (Below.mono hb10 ?_)) | (with_reducible refine Below.trans ?_ (Below.mono hb11 ?_)) | (with_reducible refine Below.trans ?_ (Below.mono hb12 ?_)) | (with_reducible refine Below.trans ?_ (Below.mono hb13 ?_)) | (with_reducible refine Below.trans ?_ (Below.mono hb14 ?_)) | (with_reducible refine Below.trans ?_ (Below.mono hb15 ?_)) | omega | (simp; done) | (simp; omega)))
      clear hO3_l hO3_0 hO3_1 hO3_2 hO3_3
      clear hb2' hb3 hS2 hO3 hR3
      by_cases hc : o2 * pd < pn * o3
      · rw [decide_eq_true hc]
        rw [if_pos hc] at Hst
        have hS3_l := hS3.lt; have hS3_0 := hS3.cell 0; have hS3_1 := hS3.cell 1; simp at hS3_0 hS3_1
        have hP3_l := hP3.lt; have hP3_0 := hP3.cell 0; have hP3_1 := hP3.cell 1; simp at hP3_0 hP3_1
        have hO4_f0 := hO4.frozen 0; have hO4_f1 := hO4.frozen 1; have hO4_f2 := hO4.frozen 2; have hO4_f3 := hO4.frozen 3
        have hO4_l := hO4.lt; have hO4_0 := hO4.cell 0; have hO4_1 := hO4.cell 1; have hO4_2 := hO4.cell 2; have hO4_3 := hO4.cell 3; simp at hO4_0 hO4_1 hO4_2 hO4_3
        clear hc
        go_wp2_with fail
        go_region
        all_goals
          go_wp2_with fail
          rw [← ha]
          go_roundg (s.length - (k + 1))
          case measure => have := hgk.out; omega
          case rel => exact ⟨k + 1, by go_num, by omega, rfl, (((hR4.setOther (show w0.heap.size ≠ w.heap.size by omega) _).setOther (show w0.heap.size ≠ w.heap.size by omega) _).setOther (show w0.heap.size ≠ w.heap.size by omega) _).drew, by rw [Hst.out]; exact (((hO4.set 1 _).set 2 _).set 3 _).drew, by (repeat' (first | exact Below.refl _ _ | assumption | refine Below.setCell ?_ ?_ _ | refine below_drewN ?_ _ | refine Below.drew ?_ | refine Below.alloc ?_ ?_ _ | (with_reducible refine Below.trans ?_ (Below.mono hb ?_)) | (with_reducible refine Below.trans ?_ (Below.mono hb0 ?_)) | (with_reducible refine Below.trans ?_ (Below.mono hb1 ?_)) | (with_reducible refine Below.trans ?_ (Below.mono hb2 ?_)) | (with_reducible refine Below.trans ?_ (Below.mono hb3 ?_)) | (with_reducible refine Below.trans ?_ (Below.mono hb4 ?_)) | (with_reducible refine Below.trans ?_ (Below.mono hb5 ?_)) | (with_reducible refine Below.trans ?_ (Below.mono hb6 ?_)) | (with_reducible refine Below.trans ?_ (Below.mono hb7 ?_)) | (with_reducible refine Below.trans ?_ (Below.mono hb8 ?_)) | (with_reducible refine Below.trans ?_ (Below.mono hb9 ?_)) | (with_reducible refine Below.trans ?_ (Below.mono hb10 ?_)) | (with_reducible refine Below.trans ?_ (Below.mono hb11 ?_)) | (with_reducible refine Below.trans ?_ (Below.mono hb12 ?_)) | (with_reducible refine Below.trans ?_ (Below.mono hb13 ?_)) | (with_reducible refine Below.trans ?_ (Below.mono hb14 ?_)) | (with_reducible refine Below.trans ?_ (Below.mono hb15 ?_)) | omega | (simp; done) | (simp; omega)))⟩
      · rw [decide_eq_false hc]
        rw [if_neg hc] at Hst
        clear hc
        go_wp2_with fail
        rw [← ha]
        go_roundg (s.length - (k + 1))
        case measure => have := hgk.out; omega
        case rel => exact ⟨k + 1, by go_num, by omega, rfl, hR4, by rw [Hst.out]; exact hO4, hb3'⟩
    · obtain rfl : k = s.length := by omega
      rw [List.take_length] at hO
      unfold becC at hO
      have hO_l := hO.lt; have hO_0 := hO.cell 0; have hO_1 := hO.cell 1; have hO_2 := hO.cell 2; have hO_3 := hO.cell 3; simp at hO_0 hO_1 hO_2 hO_3
      have hR_f0 := hR.frozen 0; have hR_f1 := hR.frozen 1; have hR_f2 := hR.frozen 2; have hR_f3 := hR.frozen 3
      have hR_l := hR.lt; have hR_0 := hR.cell 0; have hR_1 := hR.cell 1; have hR_2 := hR.cell 2; have hR_3 := hR.cell 3; simp at hR_0 hR_1 hR_2 hR_3
      go_wp2_with fail
      refine bodyPost_ret (v := .agg #[.string t, .string (bestOf l s t).1, .int .i64 (bestOf l s t).2.1, .int .i64 (bestOf l s t).2.2]) (by simp only [results, Tryz.results87]; go_simp) rfl ⟨rfl, ?_⟩
      (repeat' (first | exact Below.refl _ _ | assumption | refine Below.setCell ?_ ?_ _ | refine below_drewN ?_ _ | refine Below.drew ?_ | refine Below.alloc ?_ ?_ _ | (with_reducible refine Below.trans ?_ (Below.mono hb ?_)) | (with_reducible refine Below.trans ?_ (Below.mono hb0 ?_)) | (with_reducible refine Below.trans ?_ (Below.mono hb1 ?_)) | (with_reducible refine Below.trans ?_ (Below.mono hb2 ?_)) | (with_reducible refine Below.trans ?_ (Below.mono hb3 ?_)) | (with_reducible refine Below.trans ?_ (Below.mono hb4 ?_)) | (with_reducible refine Below.trans ?_ (Below.mono hb5 ?_)) | (with_reducible refine Below.trans ?_ (Below.mono hb6 ?_)) | (with_reducible refine Below.trans ?_ (Below.mono hb7 ?_)) | (with_reducible refine Below.trans ?_ (Below.mono hb8 ?_)) | (with_reducible refine Below.trans ?_ (Below.mono hb9 ?_)) | (with_reducible refine Below.trans ?_ (Below.mono hb10 ?_)) | (with_reducible refine Below.trans ?_ (Below.mono hb11 ?_)) | (with_reducible refine Below.trans ?_ (Below.mono hb12 ?_)) | (with_reducible refine Below.trans ?_ (Below.mono hb13 ?_)) | (with_reducible refine Below.trans ?_ (Below.mono hb14 ?_)) | (with_reducible refine Below.trans ?_ (Below.mono hb15 ?_)) | omega | (simp; done) | (simp; omega)))

theorem cmpZ_pos {x y : Int} (h : y < x) : cmpZ x y = 1 := by unfold cmpZ; rw [if_neg (by omega), if_pos h]
theorem cmpZ_neg {x y : Int} (h : ¬ y < x) : cmpZ x y ≤ 0 := by unfold cmpZ; rw [if_neg h]; split <;> omega

set_option maxRecDepth 100000 in
set_option maxHeartbeats 4000000 in
theorem knownR_any (l : List Topic) (a : Option Addr) (cap : Nat) (s : List Skill) (a2 : Option Addr) (cap2 : Nat) (t : ByteArray) (w : World) (hl : SA w a l) (hs : SA w a2 s) (hlen : l.length ≤ 1000) (hsl : s.length ≤ 1000000) (hok : SkillOk l s) :
    Calls Tryz.prog 93 #[.slice a l.length cap, .slice a2 s.length cap2, .string t] w (Gives (becV t (bestOf l s t)) w) := by
  have hR := Box.new w 132 #[.string ⟨#[]⟩, .string ⟨#[]⟩, .int .i64 0, .int .i64 0]
  go_enter Tryz.func93, Tryz.ntmps93
  go_wp2_with fail
  go_loopg [17] s.length (fun gk i wr => ∃ k : Nat, i = .int .i64 k ∧ k ≤ s.length ∧ Hid (gk = s.length - k) ∧ Box wr w.heap.size 132 #[.string ⟨#[]⟩, .string ⟨#[]⟩, .int .i64 0, .int .i64 0] ∧ Box wr (w.heap.size + 1) 132 (becC t (bestOf l (s.take k) t)) ∧ Below w.heap.size w wr)
  case atStart => exact ⟨0, rfl, by omega, rfl, hR.alloc _, Box.newAt _ _ _ _ (by simp), by (repeat' (first | exact Below.refl _ _ | assumption | refine Below.setCell ?_ ?_ _ | refine below_drewN ?_ _ | refine Below.drew ?_ | refine Below.alloc ?_ ?_ _ | (with_reducible refine Below.trans ?_ (Below.mono hb ?_)) | (with_reducible refine Below.trans ?_ (Below.mono hb0 ?_)) | (with_reducible refine Below.trans ?_ (Below.mono hb1 ?_)) | (with_reducible refine Below.trans ?_ (Below.mono hb2 ?_)) | (with_reducible refine Below.trans ?_ (Below.mono hb3 ?_)) | (with_reducible refine Below.trans ?_ (Below.mono hb4 ?_)) | (with_reducible refine Below.trans ?_ (Below.mono hb5 ?_)) | (with_reducible refine Below.trans ?_ (Below.mono hb6 ?_)) | (with_reducible refine Below.trans ?_ (Below.mono hb7 ?_)) | (with_reducible refine Below.trans ?_ (Below.mono hb8 ?_)) | (with_reducible refine Below.trans ?_ (Below.mono hb9 ?_)) | (with_reducible refine Below.trans ?_ (Below.mono hb10 ?_)) | (with_reducible refine Below.trans ?_ (Below.mono hb11 ?_)) | (with_reducible refine Below.trans ?_ (Below.mono hb12 ?_)) | (with_reducible refine Below.trans ?_ (Below.mono hb13 ?_)) | (with_reducible refine Below.trans ?_ (Below.mono hb14 ?_)) | (with_reducible refine Below.trans ?_ (Below.mono hb15 ?_)) | omega | (simp; done) | (simp; omega)))⟩
  case round =>
    clear hR
    obtain ⟨k, rfl, hk, hgk, hR, hO, hb⟩ := hrel
    have hz := hb.size
    have hO1 := hO.lt
    by_cases hlt : k < s.length
    · obtain ⟨b, off, ha, c0, c1⟩ := (hs.below hb).skill hlt
      have Hst := Lib.hid (best_snoc (l := l) (t := t) hlt)
      have hbd := best_bd (s := s.take k) t hlen (fun x hx => hok x (List.mem_of_mem_take hx))
      have hx := hok s[k] (List.getElem_mem hlt)
      have hpb := part_bd t hlen hx
      rw [ha]
      generalize s[k] = x at *
      generalize bestOf l (s.take k) t = o at *
      obtain ⟨x1, x2⟩ := x
      obtain ⟨o1, o2, o3⟩ := o
      unfold bestStep at Hst
      unfold partN partD at *
      unfold KnownBd at hbd
      unfold becC at hO
      have HN := Lib.hid (fun w h => nearOf_any l a cap x1 t w h (by omega) hx.1)
      simp only [nearV_eq] at HN
      simp only at c0 c1 hx hpb hbd hO Hst
      generalize nearN l x1 t = N at *
      generalize nearD l x1 t = D at *
      have HL := Lib.hid (fun w => part_any (x2 * N) (100 * D) w (by omega) (by omega) (by omega))
      unfold low at HL
      generalize lowN (x2 * N) (100 * D) = pn at *
      generalize lowD (x2 * N) (100 * D) = pd at *
      obtain ⟨⟨q1, q2⟩, ⟨q3, q4⟩, ⟨q5, q6⟩, q7, q8⟩ := hpb
      obtain ⟨⟨q9, q10⟩, q11, q12⟩ := hbd
      have hm1 := mul_bd2 q9 q10 (by omega : 0 ≤ pd) q8
      have hm2 := mul_bd2 q5 q6 (by omega : 0 ≤ o3) q12
      have HLs := Lib.hid (fun w => compareFractions_any pn pd o2 o3 w (by omega) (by omega) (by omega) (by omega))
      clear hx hm1 hm2
      go_wp2_with fail
      refine (HN.out _ ((hl.below hb).alloc _)).mono ?_
      rintro e w1 ⟨rfl, hb1⟩
      have hz1 := hb1.size
      simp at hz1
      have hS := (Box.new wr 139 #[.string x1, .int .i64 x2]).below hb1
      have hO2 := (hO.alloc (.cells #[.string x1, .int .i64 x2] 139)).below hb1
      have hR2 := (hR.alloc (.cells #[.string x1, .int .i64 x2] 139)).below hb1
      have hb1' : Below w.heap.size w w1 := by (repeat' (first | exact Below.refl _ _ | assumption | refine Below.setCell ?_ ?_ _ | refine below_drewN ?_ _ | refine Below.drew ?_ | refine Below.alloc ?_ ?_ _ | (with_reducible refine Below.trans ?_ (Below.mono hb ?_)) | (with_reducible refine Below.trans ?_ (Below.mono hb0 ?_)) | (with_reducible refine Below.trans ?_ (Below.mono hb1 ?_)) | (with_reducible refine Below.trans ?_ (Below.mono hb2 ?_)) | (with_reducible refine Below.trans ?_ (Below.mono hb3 ?_)) | (with_reducible refine Below.trans ?_ (Below.mono hb4 ?_)) | (with_reducible refine Below.trans ?_ (Below.mono hb5 ?_)) | (with_reducible refine Below.trans ?_ (Below.mono hb6 ?_)) | (with_reducible refine Below.trans ?_ (Below.mono hb7 ?_)) | (with_reducible refine Below.trans ?_ (Below.mono hb8 ?_)) | (with_reducible refine Below.trans ?_ (Below.mono hb9 ?_)) | (with_reducible refine Below.trans ?_ (Below.mono hb10 ?_)) | (with_reducible refine Below.trans ?_ (Below.mono hb11 ?_)) | (with_reducible refine Below.trans ?_ (Below.mono hb12 ?_)) | (with_reducible refine Below.trans ?_ (Below.mono hb13 ?_)) | (with_reducible refine Below.trans ?_ (Below.mono hb14 ?_)) | (with_reducible refine Below.trans ?_ (Below.mono hb15 ?_)) | omega | (simp; done) | (simp; omega)))
      have hS_l := hS.lt; have hS_0 := hS.cell 0; have hS_1 := hS.cell 1; simp at hS_0 hS_1
      go_wp2_with fail
      refine (HL.out _).mono ?_
      rintro e w2 ⟨rfl, hb2⟩
      have hz2 := hb2.size
      simp at hz2
      have hS2 := (hS.alloc (.cells #[.int .i64 N, .int .i64 D] 37)).below hb2
      have hO3 := (hO2.alloc (.cells #[.int .i64 N, .int .i64 D] 37)).below hb2
      have hR3 := (hR2.alloc (.cells #[.int .i64 N, .int .i64 D] 37)).below hb2
      have hb2' : Below w.heap.size w w2 := by (repeat' (first | exact Below.refl _ _ | assumption | refine Below.setCell ?_ ?_ _ | refine below_drewN ?_ _ | refine Below.drew ?_ | refine Below.alloc ?_ ?_ _ | (with_reducible refine Below.trans ?_ (Below.mono hb ?_)) | (with_reducible refine Below.trans ?_ (Below.mono hb0 ?_)) | (with_reducible refine Below.trans ?_ (Below.mono hb1 ?_)) | (with_reducible refine Below.trans ?_ (Below.mono hb2 ?_)) | (with_reducible refine Below.trans ?_ (Below.mono hb3 ?_)) | (with_reducible refine Below.trans ?_ (Below.mono hb4 ?_)) | (with_reducible refine Below.trans ?_ (Below.mono hb5 ?_)) | (with_reducible refine Below.trans ?_ (Below.mono hb6 ?_)) | (with_reducible refine Below.trans ?_ (Below.mono hb7 ?_)) | (with_reducible refine Below.trans ?_ (Below.mono hb8 ?_)) | (with_reducible refine Below.trans ?_ (Below.mono hb9 ?_)) | (with_reducible refine Below.trans ?_ (Below.mono hb10 ?_)) | (with_reducible refine Below.trans ?_ (Below.mono hb11 ?_)) | (with_reducible refine Below.trans ?_ (Below.mono hb12 ?_)) | (with_reducible refine Below.trans ?_ (Below.mono hb13 ?_)) | (with_reducible refine Below.trans ?_ (Below.mono hb14 ?_)) | (with_reducible refine Below.trans ?_ (Below.mono hb15 ?_)) | omega | (simp; done) | (simp; omega)))
      clear hS_l hS_0 hS_1
      clear hb1 hb2 hb1' hS hO hR hO2 hR2
      have hO3_l := hO3.lt; have hO3_0 := hO3.cell 0; have hO3_1 := hO3.cell 1; have hO3_2 := hO3.cell 2; have hO3_3 := hO3.cell 3; simp at hO3_0 hO3_1 hO3_2 hO3_3
      go_wp2_with fail
      refine (HLs.out _).mono ?_
      rintro e w3 ⟨rfl, hb3⟩
      have hz3 := hb3.size
      simp at hz3
      have hS3 := (hS2.alloc (.cells #[.int .i64 pn, .int .i64 pd] 37)).below hb3
      have hP3 := (Box.new w2 37 #[.int .i64 pn, .int .i64 pd]).below hb3
      have hO4 := (hO3.alloc (.cells #[.int .i64 pn, .int .i64 pd] 37)).below hb3
      have hR4 := (hR3.alloc (.cells #[.int .i64 pn, .int .i64 pd] 37)).below hb3
      have hb3' : Below w.heap.size w w3 := by (repeat' (first | exact Below.refl _ _ | assumption | refine Below.setCell ?_ ?_ _ | refine below_drewN ?_ _ | refine Below.drew ?_ | refine Below.alloc ?_ ?_ _ | (with_reducible refine Below.trans ?_ (Below.mono hb ?_)) | (with_reducible refine Below.trans ?_ (Below.mono hb0 ?_)) | (with_reducible refine Below.trans ?_ (Below.mono hb1 ?_)) | (with_reducible refine Below.trans ?_ (Below.mono hb2 ?_)) | (with_reducible refine Below.trans ?_ (Below.mono hb3 ?_)) | (with_reducible refine Below.trans ?_ (Below.mono hb4 ?_)) | (with_reducible refine Below.trans ?_ (Below.mono hb5 ?_)) | (with_reducible refine Below.trans ?_ (Below.mono hb6 ?_)) | (with_reducible refine Below.trans ?_ (Below.mono hb7 ?_)) | (with_reducible refine Below.trans ?_ (Below.mono hb8 ?_)) | (with_reducible refine Below.trans ?_ (Below.mono hb9 ?_)) | (with_reducible refine Below.trans ?_ (Below.mono hb10 ?_)) | (with_reducible refine Below.trans ?_ (Below.mono hb11 ?_)) | (with_reducible refine Below.trans ?_ (Below.mono hb12 ?_)) | (with_reducible refine Below.trans ?_ (Below.mono hb13 ?_)) | (with_reducible refine Below.trans ?_ (Below.mono hb14 ?_)) | (with_reducible refine Below.trans ?_ (Below.mono hb15 ?_)) | omega | (simp; done) | (simp; omega)))
      clear hO3_l hO3_0 hO3_1 hO3_2 hO3_3
      clear hb2' hb3 hS2 hO3 hR3
      by_cases hc : o2 * pd < pn * o3
      · rw [cmpZ_pos hc]
        rw [if_pos hc] at Hst
        have hS3_l := hS3.lt; have hS3_0 := hS3.cell 0; have hS3_1 := hS3.cell 1; simp at hS3_0 hS3_1
        have hP3_l := hP3.lt; have hP3_0 := hP3.cell 0; have hP3_1 := hP3.cell 1; simp at hP3_0 hP3_1
        have hO4_f0 := hO4.frozen 0; have hO4_f1 := hO4.frozen 1; have hO4_f2 := hO4.frozen 2; have hO4_f3 := hO4.frozen 3
        have hO4_l := hO4.lt; have hO4_0 := hO4.cell 0; have hO4_1 := hO4.cell 1; have hO4_2 := hO4.cell 2; have hO4_3 := hO4.cell 3; simp at hO4_0 hO4_1 hO4_2 hO4_3
        clear hc
        go_wp2_with fail
        go_region
        all_goals
          go_wp2_with fail
          rw [← ha]
          go_roundg (s.length - (k + 1))
          case measure => have := hgk.out; omega
          case rel => exact ⟨k + 1, by go_num, by omega, rfl, (((hR4.setOther (show w.heap.size + 1 ≠ w.heap.size by omega) _).setOther (show w.heap.size + 1 ≠ w.heap.size by omega) _).setOther (show w.heap.size + 1 ≠ w.heap.size by omega) _).drew, by rw [Hst.out]; exact (((hO4.set 2 _).set 3 _).set 1 _).drew, by (repeat' (first | exact Below.refl _ _ | assumption | refine Below.setCell ?_ ?_ _ | refine below_drewN ?_ _ | refine Below.drew ?_ | refine Below.alloc ?_ ?_ _ | (with_reducible refine Below.trans ?_ (Below.mono hb ?_)) | (with_reducible refine Below.trans ?_ (Below.mono hb0 ?_)) | (with_reducible refine Below.trans ?_ (Below.mono hb1 ?_)) | (with_reducible refine Below.trans ?_ (Below.mono hb2 ?_)) | (with_reducible refine Below.trans ?_ (Below.mono hb3 ?_)) | (with_reducible refine Below.trans ?_ (Below.mono hb4 ?_)) | (with_reducible refine Below.trans ?_ (Below.mono hb5 ?_)) | (with_reducible refine Below.trans ?_ (Below.mono hb6 ?_)) | (with_reducible refine Below.trans ?_ (Below.mono hb7 ?_)) | (with_reducible refine Below.trans ?_ (Below.mono hb8 ?_)) | (with_reducible refine Below.trans ?_ (Below.mono hb9 ?_)) | (with_reducible refine Below.trans ?_ (Below.mono hb10 ?_)) | (with_reducible refine Below.trans ?_ (Below.mono hb11 ?_)) | (with_reducible refine Below.trans ?_ (Below.mono hb12 ?_)) | (with_reducible refine Below.trans ?_ (Below.mono hb13 ?_)) | (with_reducible refine Below.trans ?_ (Below.mono hb14 ?_)) | (with_reducible refine Below.trans ?_ (Below.mono hb15 ?_)) | omega | (simp; done) | (simp; omega)))⟩
      · have hcz := cmpZ_neg hc; generalize cmpZ (pn * o3) (o2 * pd) = cz at *
        rw [if_neg hc] at Hst
        clear hc
        go_wp2_with fail
        rw [← ha]
        go_roundg (s.length - (k + 1))
        case measure => have := hgk.out; omega
        case rel => exact ⟨k + 1, by go_num, by omega, rfl, hR4, by rw [Hst.out]; exact hO4, hb3'⟩
    · obtain rfl : k = s.length := by omega
      rw [List.take_length] at hO
      unfold becC at hO
      have hO_l := hO.lt; have hO_0 := hO.cell 0; have hO_1 := hO.cell 1; have hO_2 := hO.cell 2; have hO_3 := hO.cell 3; simp at hO_0 hO_1 hO_2 hO_3
      have hR_f0 := hR.frozen 0; have hR_f1 := hR.frozen 1; have hR_f2 := hR.frozen 2; have hR_f3 := hR.frozen 3
      have hR_l := hR.lt; have hR_0 := hR.cell 0; have hR_1 := hR.cell 1; have hR_2 := hR.cell 2; have hR_3 := hR.cell 3; simp at hR_0 hR_1 hR_2 hR_3
      go_wp2_with fail
      refine bodyPost_ret (v := .agg #[.string t, .string (bestOf l s t).1, .int .i64 (bestOf l s t).2.1, .int .i64 (bestOf l s t).2.2]) (by simp only [results, Tryz.results93]; go_simp) rfl ⟨rfl, ?_⟩
      (repeat' (first | exact Below.refl _ _ | assumption | refine Below.setCell ?_ ?_ _ | refine below_drewN ?_ _ | refine Below.drew ?_ | refine Below.alloc ?_ ?_ _ | (with_reducible refine Below.trans ?_ (Below.mono hb ?_)) | (with_reducible refine Below.trans ?_ (Below.mono hb0 ?_)) | (with_reducible refine Below.trans ?_ (Below.mono hb1 ?_)) | (with_reducible refine Below.trans ?_ (Below.mono hb2 ?_)) | (with_reducible refine Below.trans ?_ (Below.mono hb3 ?_)) | (with_reducible refine Below.trans ?_ (Below.mono hb4 ?_)) | (with_reducible refine Below.trans ?_ (Below.mono hb5 ?_)) | (with_reducible refine Below.trans ?_ (Below.mono hb6 ?_)) | (with_reducible refine Below.trans ?_ (Below.mono hb7 ?_)) | (with_reducible refine Below.trans ?_ (Below.mono hb8 ?_)) | (with_reducible refine Below.trans ?_ (Below.mono hb9 ?_)) | (with_reducible refine Below.trans ?_ (Below.mono hb10 ?_)) | (with_reducible refine Below.trans ?_ (Below.mono hb11 ?_)) | (with_reducible refine Below.trans ?_ (Below.mono hb12 ?_)) | (with_reducible refine Below.trans ?_ (Below.mono hb13 ?_)) | (with_reducible refine Below.trans ?_ (Below.mono hb14 ?_)) | (with_reducible refine Below.trans ?_ (Below.mono hb15 ?_)) | omega | (simp; done) | (simp; omega)))
end Go.Proofs.YtpgofjjcmldhpaaGreatDoor

/-! Sums of fractions whose denominators divide a number. -/
namespace Go.Proofs.YtpgofjjcmldhpaaGreatDoor
set_option linter.unusedVariables false

theorem small_dvd (n : Int) (h1 : 1 ≤ n) (h2 : n ≤ 10) : n ∣ 2520 := by
  have : n = 1 ∨ n = 2 ∨ n = 3 ∨ n = 4 ∨ n = 5 ∨ n = 6 ∨ n = 7 ∨ n = 8 ∨ n = 9 ∨ n = 10 := by omega
  rcases this with rfl | rfl | rfl | rfl | rfl | rfl | rfl | rfl | rfl | rfl <;> decide

/-- Skills of a right forest. -/
def SkillFit (l : List Topic) (s : List Skill) : Prop := ∀ x ∈ s, 1 ≤ (ab l x.1).length ∧ (ab l x.1).length ≤ 5 ∧ 0 ≤ x.2 ∧ x.2 ≤ 100
theorem SkillFit.ok {l : List Topic} {s : List Skill} (h : SkillFit l s) : SkillOk l s := fun x hx => ⟨(h x hx).1, (h x hx).2.2⟩
theorem near_dvd (l : List Topic) (a b : ByteArray) (h1 : 1 ≤ (ab l a).length) (h2 : (ab l a).length ≤ 5) (h3 : (ab l b).length ≤ 5) : nearD l a b ∣ 2520 := by
  unfold nearD
  split
  · decide
  · exact Int.dvd_trans (lowD_dvd _ _ (by omega)) (small_dvd _ (by omega) (by omega))
theorem part_fit {l : List Topic} {x : Skill} (t : ByteArray) (hlen : l.length ≤ 1000) (h : 1 ≤ (ab l x.1).length ∧ (ab l x.1).length ≤ 5 ∧ 0 ≤ x.2 ∧ x.2 ≤ 100) (ht : (ab l t).length ≤ 5) :
    partD l t x ∣ 252000 ∧ partN l t x ≤ 2002 * partD l t x := by
  obtain ⟨h1, h2, h3, h4⟩ := h
  obtain ⟨n1, n2, n3, n4⟩ := near_bd l x.1 t hlen h1
  obtain ⟨u, hu⟩ := near_dvd l x.1 t h1 h2 ht
  constructor
  · unfold partD
    refine Int.dvd_trans (lowD_dvd _ _ (by omega)) ⟨u, ?_⟩
    rw [Int.mul_assoc, ← hu]; rfl
  · unfold partN partD
    refine low_le _ _ _ (Int.mul_nonneg h3 n1) (by omega) ?_
    have := (mul_bd2 h3 h4 n1 n2).2
    omega
def KnownFit (o : Known) : Prop := 0 ≤ o.2.1 ∧ 1 ≤ o.2.2 ∧ o.2.2 ∣ 252000 ∧ o.2.1 ≤ 2002 * o.2.2
theorem best_fit {l : List Topic} {s : List Skill} (t : ByteArray) (hlen : l.length ≤ 1000) (h : SkillFit l s) (ht : (ab l t).length ≤ 5) : KnownFit (bestOf l s t) := by
  unfold bestOf
  have : ∀ (s : List Skill) (o : Known), SkillFit l s → KnownFit o → KnownFit (s.foldl (bestStep l t) o) := by
    intro s
    induction s with
    | nil => intro o _ h; exact h
    | cons x r ih =>
      intro o hs ho
      rw [List.foldl_cons]
      refine ih _ (fun y hy => hs y (List.mem_cons_of_mem _ hy)) ?_
      unfold bestStep
      split
      · have hx := hs x (List.mem_cons_self ..)
        have h1 := part_bd t hlen ⟨hx.1, hx.2.2⟩
        have h2 := part_fit t hlen hx ht
        exact ⟨h1.2.2.1.1, h1.2.2.2.1, h2.1, h2.2⟩
      · exact ho
  exact this s _ h ⟨by simp, by simp, by simp, by simp⟩

/-- The sum of what is known of some topics. -/
def affStep (o : Int × Int) (b : Known) : Int × Int := (lowN (o.1 * b.2.2 + b.2.1 * o.2) (o.2 * b.2.2), lowD (o.1 * b.2.2 + b.2.1 * o.2) (o.2 * b.2.2))
def affOf (bs : List Known) : Int × Int := bs.foldl affStep (0, 1)
theorem aff_fit {bs : List Known} (h : ∀ b ∈ bs, KnownFit b) : 0 ≤ (affOf bs).1 ∧ 1 ≤ (affOf bs).2 ∧ (affOf bs).2 ∣ 252000 ∧ (affOf bs).1 ≤ (2002 * bs.length : Int) * (affOf bs).2 := by
  have : ∀ (bs : List Known) (o : Int × Int) (A : Int), (∀ b ∈ bs, KnownFit b) → (0 ≤ o.1 ∧ 1 ≤ o.2 ∧ o.2 ∣ 252000 ∧ o.1 ≤ A * o.2) →
      (0 ≤ (bs.foldl affStep o).1 ∧ 1 ≤ (bs.foldl affStep o).2 ∧ (bs.foldl affStep o).2 ∣ 252000 ∧ (bs.foldl affStep o).1 ≤ (A + 2002 * bs.length) * (bs.foldl affStep o).2) := by
    intro bs
    induction bs with
    | nil => intro o A _ h; simpa using h
    | cons b r ih =>
      intro o A hb ho
      rw [List.foldl_cons]
      obtain ⟨o1, o2, o3, o4⟩ := ho
      obtain ⟨b1, b2, b3, b4⟩ := hb b (List.mem_cons_self ..)
      have hk := sum_keeps o.1 o.2 b.2.1 b.2.2 252000 A 2002 o1 o2 b1 b2 o3 b3 o4 b4
      have := ih (affStep o b) (A + 2002) (fun y hy => hb y (List.mem_cons_of_mem _ hy)) ⟨hk.2.1, hk.2.2.2, hk.1, hk.2.2.1⟩
      refine ⟨this.1, this.2.1, this.2.2.1, ?_⟩
      rw [List.length_cons]
      have e : A + 2002 * ((r.length + 1 : Nat) : Int) = A + 2002 + 2002 * (r.length : Int) := by omega
      rw [e]
      exact this.2.2.2
  have := this bs (0, 1) 0 h ⟨by simp, by simp, by simp, by simp⟩
  simpa [affOf] using this
end Go.Proofs.YtpgofjjcmldhpaaGreatDoor

/-! Reasons and affinities: lists of what is known, sums. -/
namespace Go.Proofs.YtpgofjjcmldhpaaGreatDoor
open Go.RowKit
set_option linter.unusedVariables false
set_option linter.unusedSimpArgs false

/-- Because: a topic, by which skill, how much. -/
abbrev Bec := ByteArray × Known
instance : Cel Bec := ⟨4, fun t => [.string t.1, .string t.2.1, .int .i64 t.2.2.1, .int .i64 t.2.2.2], fun _ => rfl, by decide, by simp [Value.oneCell']⟩
theorem Tryz.infoBec : (Tryz.prog.info? 132).map (fun i => (i.zero, i.size, i.bytes)) = some (some (.agg #[.string ⟨#[]⟩, .string ⟨#[]⟩, .int .i64 0, .int .i64 0]), 4, 48) := by kernel_rfl
def becs (l : List Topic) (s : List Skill) (ts : List ByteArray) : List Bec := ts.map (fun t => (t, bestOf l s t))
theorem becs_snoc (l : List Topic) (s : List Skill) {ts : List ByteArray} {k : Nat} (hk : k < ts.length) : becs l s (ts.take (k + 1)) = becs l s (ts.take k) ++ [(ts[k], bestOf l s ts[k])] := by
  unfold becs; rw [List.take_succ_eq_append_getElem hk, List.map_append]; rfl
theorem becs_length (l : List Topic) (s : List Skill) (ts : List ByteArray) : (becs l s ts).length = ts.length := by simp [becs]


set_option maxRecDepth 100000 in
set_option maxHeartbeats 4000000 in
theorem becauseOf_any (l : List Topic) (a : Option Addr) (cap : Nat) (s : List Skill) (a2 : Option Addr) (cap2 : Nat) (ts : List ByteArray) (a3 : Option Addr) (cap3 : Nat) (w : World) (hl : SA w a l) (hs : SA w a2 s) (ht : SA w a3 ts) (hlen : l.length ≤ 1000) (hsl : s.length ≤ 1000000) (htl : ts.length ≤ 1000000) (hok : SkillOk l s) :
    Calls Tryz.prog 118 #[.slice a l.length cap, .slice a2 s.length cap2, .slice a3 ts.length cap3] w (GivesOwn 132 (becs l s ts) w) := by
  have HK := Lib.hid (fun t w h1 h2 => knownR_any l a cap s a2 cap2 t w h1 h2 hlen hsl hok)
  go_enter Tryz.func118, Tryz.ntmps118
  go_wp2_with fail
  go_loopg [7, 12] ts.length (fun gk v i wr => ∃ (k : Nat) (acc : List Bec), i = .int .i64 k ∧ k ≤ ts.length ∧ Hid (gk = ts.length - k) ∧ Hid (acc = becs l s (ts.take k)) ∧ Own w.heap.size 132 wr v acc ∧ Below w.heap.size w wr)
  case atStart => exact ⟨0, [], rfl, by omega, rfl, rfl, Own.nil _ _ _, by first | exact Below.refl _ _ | assumption⟩
  case round =>
    obtain ⟨k, acc, rfl, hk, hgk, hacc, hown, hb⟩ := hrel
    have hz := hb.size
    by_cases hlt : k < ts.length
    · obtain ⟨b, off, ha, c0⟩ := (ht.below hb).str hlt
      have Hsn := Lib.hid (becs_snoc l s hlt)
      have hal : acc.length = k := by rw [hacc.out, becs_length, List.length_take]; omega
      have Hal := Lib.hid hal
      rw [ha]
      generalize ts[k] = t at *
      clear hal
      go_wp2_with fail
      refine (HK.out t _ (hl.below hb) (hs.below hb)).mono ?_
      rintro e w1 ⟨rfl, hb1⟩
      have hz1 := hb1.size
      have hown1 := hown.below hb1
      have hb1' := below_next hb hb1
      unfold becV
      generalize bestOf l s t = o at *
      obtain ⟨o1, o2, o3⟩ := o
      simp only at Hsn ⊢
      clear hown hb1 c0
      go_upto_region 6 with (at_builtin; refine wpList_append_one rfl _ _ 166 rfl w.heap.size 132 48 (.agg #[.string ⟨#[]⟩, .string ⟨#[]⟩, .int .i64 0, .int .i64 0]) Tryz.underlying166 Tryz.infoBec rfl _ acc rfl (hown1.alloc _) (t, o1, o2, o3) _ rfl (Box.newAt _ _ _ _ ?c0) ?c1 ?c2 ?c3 ?_; rotate_left 4; intro v' w2 hown2 hg2)
      case c0 => rfl
      case c1 => have := Hal.out; omega
      case c2 => have := Hal.out; omega
      case c3 => simp; omega
      have hb2 : Below w.heap.size w w2 := Below.grown (w := w1.alloc (.cells #[.string t, .string o1, .int .i64 o2, .int .i64 o3] 132)) (by (repeat' (first | exact Below.refl _ _ | assumption | refine Below.setCell ?_ ?_ _ | refine below_drewN ?_ _ | refine Below.drew ?_ | refine Below.alloc ?_ ?_ _ | (with_reducible refine Below.trans ?_ (Below.mono hb ?_)) | (with_reducible refine Below.trans ?_ (Below.mono hb0 ?_)) | (with_reducible refine Below.trans ?_ (Below.mono hb1 ?_)) | (with_reducible refine Below.trans ?_ (Below.mono hb2 ?_)) | (with_reducible refine Below.trans ?_ (Below.mono hb3 ?_)) | (with_reducible refine Below.trans ?_ (Below.mono hb4 ?_)) | (with_reducible refine Below.trans ?_ (Below.mono hb5 ?_)) | (with_reducible refine Below.trans ?_ (Below.mono hb6 ?_)) | (with_reducible refine Below.trans ?_ (Below.mono hb7 ?_)) | (with_reducible refine Below.trans ?_ (Below.mono hb8 ?_)) | (with_reducible refine Below.trans ?_ (Below.mono hb9 ?_)) | (with_reducible refine Below.trans ?_ (Below.mono hb10 ?_)) | (with_reducible refine Below.trans ?_ (Below.mono hb11 ?_)) | (with_reducible refine Below.trans ?_ (Below.mono hb12 ?_)) | (with_reducible refine Below.trans ?_ (Below.mono hb13 ?_)) | (with_reducible refine Below.trans ?_ (Below.mono hb14 ?_)) | (with_reducible refine Below.trans ?_ (Below.mono hb15 ?_)) | omega | (simp; done) | (simp; omega)))) hg2 (by simp; omega) (fun k hk => (hown1.lt k hk).1)
      go_wp2_with fail
      rw [← ha]
      go_roundg (ts.length - (k + 1))
      case measure => have := hgk.out; omega
      case rel => exact ⟨k + 1, _, by go_num, by omega, rfl, by show _ = _; rw [Hsn.out, ← hacc.out], hown2, hb2⟩
    · have hfin : becs l s ts = acc := by rw [hacc.out, List.take_of_length_le (by omega)]
      have Hfin := Lib.hid hfin
      clear hfin
      go_wp2_with fail
      go_ret; exact ⟨_, rfl, by rw [Hfin.out]; exact hown, hb⟩

/-- The errors of wanting. -/
def skilledE (l : List Topic) (s : List Skill) : Int := if forestFault l ≠ 0 then forestFault l else skillsFault l s
def wantingE (l : List Topic) (s : List Skill) (ts : List ByteArray) : Int := if skilledE l s ≠ 0 then skilledE l s else wantedFault l ts
def GivesF (l : List Topic) (er : Int) (w : World) (e : Ending) (w' : World) : Prop :=
  Below w.heap.size w w' ∧ ((er ≠ 0 ∧ e = .returned (.tuple #[.map none, .int .i64 er])) ∨ (er = 0 ∧ ∃ b, e = .returned (.tuple #[.map (some b), .int .i64 0]) ∧ FMap w' b l l.length))


theorem skilledE_right {l : List Topic} {s : List Skill} (h : skilledE l s = 0) : forestFault l = 0 ∧ skillsFault l s = 0 := by
  unfold skilledE at h
  by_cases hf : forestFault l = 0
  · rw [if_neg (by simp [hf])] at h; exact ⟨hf, h⟩
  · rw [if_pos hf] at h; exact absurd h hf


end Go.Proofs.YtpgofjjcmldhpaaGreatDoor

/-! Affinities, of the program and of the reference. -/
namespace Go.Proofs.YtpgofjjcmldhpaaGreatDoor
open Go.RowKit
set_option linter.unusedVariables false
set_option linter.unusedSimpArgs false

def knowns (l : List Topic) (s : List Skill) (ts : List ByteArray) : List Known := ts.map (bestOf l s)
def affV (l : List Topic) (s : List Skill) (ts : List ByteArray) : Value :=
  if ts.length = 0 then .agg #[.int .i64 0, .int .i64 1] else low (affOf (knowns l s ts)).1 ((affOf (knowns l s ts)).2 * ts.length)
theorem aff_snoc (l : List Topic) (s : List Skill) {ts : List ByteArray} {k : Nat} (hk : k < ts.length) : affOf (knowns l s (ts.take (k + 1))) = affStep (affOf (knowns l s (ts.take k))) (bestOf l s ts[k]) := by
  unfold affOf knowns
  rw [List.take_succ_eq_append_getElem hk, List.map_append, List.foldl_append]
  rfl
/-- What the sums stay within. -/
theorem aff_bd {l : List Topic} {s : List Skill} {ts : List ByteArray} (hlen : l.length ≤ 1000) (hs : SkillFit l s) (ht : ∀ t ∈ ts, (ab l t).length ≤ 5) (h8 : ts.length ≤ 8) :
    (0 ≤ (affOf (knowns l s ts)).1 ∧ (affOf (knowns l s ts)).1 ≤ 4036032000) ∧ (1 ≤ (affOf (knowns l s ts)).2 ∧ (affOf (knowns l s ts)).2 ≤ 252000) := by
  obtain ⟨h1, h2, h3, h4⟩ := aff_fit (bs := knowns l s ts) (fun b hb => by
    obtain ⟨t, htm, rfl⟩ := List.mem_map.1 hb
    exact best_fit t hlen hs (ht t htm))
  have h5 := Int.le_of_dvd (by decide) h3
  have hl : (knowns l s ts).length = ts.length := by simp [knowns]
  rw [hl] at h4
  have h6 := (mul_bd2 (a := 2002 * (ts.length : Int)) (b := (affOf (knowns l s ts)).2) (A := 16016) (B := 252000) (by omega) (by omega) (by omega) h5).2
  omega
theorem best_bd2 {l : List Topic} {s : List Skill} (t : ByteArray) (hlen : l.length ≤ 1000) (hs : SkillFit l s) (ht : (ab l t).length ≤ 5) :
    (0 ≤ (bestOf l s t).2.1 ∧ (bestOf l s t).2.1 ≤ 504504000) ∧ (1 ≤ (bestOf l s t).2.2 ∧ (bestOf l s t).2.2 ≤ 252000) := by
  obtain ⟨h1, h2, h3, h4⟩ := best_fit t hlen hs ht
  have h5 := Int.le_of_dvd (by decide) h3
  omega

set_option maxRecDepth 100000 in
set_option maxHeartbeats 4000000 in
theorem affinity_any (l : List Topic) (fb : Nat) (s : List Skill) (a2 : Option Addr) (cap2 : Nat) (ts : List ByteArray) (a3 : Option Addr) (cap3 : Nat) (w : World) (hF : FMap w fb l l.length) (hs : SA w a2 s) (ht : SA w a3 ts) (hlen : l.length ≤ 1000) (hsl : s.length ≤ 1000000) (htl : ts.length ≤ 8) (hok : SkillFit l s) (htk : ∀ t ∈ ts, (ab l t).length ≤ 5) :
    Calls Tryz.prog 140 #[.map (some fb), .slice a2 s.length cap2, .slice a3 ts.length cap3] w (Gives (affV l s ts) w) := by
  have hR0 := Box.new w 37 #[.int .i64 0, .int .i64 0]
  by_cases h0 : ts.length = 0
  · have hv : affV l s ts = .agg #[.int .i64 0, .int .i64 1] := by simp [affV, h0]
    rw [hv, h0]
    clear hv h0 htl
    go_enter Tryz.func140, Tryz.ntmps140
    go_wp2_with fail
    refine (zero_any _).mono ?_
    rintro e w0 ⟨rfl, hb0⟩
    have hz0 := hb0.size
    simp at hz0
    have hR := hR0.below hb0
    have hb0' : Below w.heap.size w w0 := by (repeat' (first | exact Below.refl _ _ | assumption | refine Below.setCell ?_ ?_ _ | refine below_drewN ?_ _ | refine Below.drew ?_ | refine Below.alloc ?_ ?_ _ | (with_reducible refine Below.trans ?_ (Below.mono hb ?_)) | (with_reducible refine Below.trans ?_ (Below.mono hb0 ?_)) | (with_reducible refine Below.trans ?_ (Below.mono hb1 ?_)) | (with_reducible refine Below.trans ?_ (Below.mono hb2 ?_)) | (with_reducible refine Below.trans ?_ (Below.mono hb3 ?_)) | (with_reducible refine Below.trans ?_ (Below.mono hb4 ?_)) | (with_reducible refine Below.trans ?_ (Below.mono hb5 ?_)) | (with_reducible refine Below.trans ?_ (Below.mono hb6 ?_)) | (with_reducible refine Below.trans ?_ (Below.mono hb7 ?_)) | (with_reducible refine Below.trans ?_ (Below.mono hb8 ?_)) | (with_reducible refine Below.trans ?_ (Below.mono hb9 ?_)) | (with_reducible refine Below.trans ?_ (Below.mono hb10 ?_)) | (with_reducible refine Below.trans ?_ (Below.mono hb11 ?_)) | (with_reducible refine Below.trans ?_ (Below.mono hb12 ?_)) | (with_reducible refine Below.trans ?_ (Below.mono hb13 ?_)) | (with_reducible refine Below.trans ?_ (Below.mono hb14 ?_)) | (with_reducible refine Below.trans ?_ (Below.mono hb15 ?_)) | omega | (simp; done) | (simp; omega)))
    have hR_l := hR.lt; have hR_0 := hR.cell 0; have hR_1 := hR.cell 1; simp at hR_0 hR_1
    have hR_f0 := hR.frozen 0; have hR_f1 := hR.frozen 1
    go_wp2_with fail
    refine bodyPost_ret (v := .agg #[.int .i64 0, .int .i64 1]) (by simp only [results, Tryz.results140]; go_simp) rfl ⟨rfl, ?_⟩
    (repeat' (first | exact Below.refl _ _ | assumption | refine Below.setCell ?_ ?_ _ | refine below_drewN ?_ _ | refine Below.drew ?_ | refine Below.alloc ?_ ?_ _ | (with_reducible refine Below.trans ?_ (Below.mono hb ?_)) | (with_reducible refine Below.trans ?_ (Below.mono hb0 ?_)) | (with_reducible refine Below.trans ?_ (Below.mono hb1 ?_)) | (with_reducible refine Below.trans ?_ (Below.mono hb2 ?_)) | (with_reducible refine Below.trans ?_ (Below.mono hb3 ?_)) | (with_reducible refine Below.trans ?_ (Below.mono hb4 ?_)) | (with_reducible refine Below.trans ?_ (Below.mono hb5 ?_)) | (with_reducible refine Below.trans ?_ (Below.mono hb6 ?_)) | (with_reducible refine Below.trans ?_ (Below.mono hb7 ?_)) | (with_reducible refine Below.trans ?_ (Below.mono hb8 ?_)) | (with_reducible refine Below.trans ?_ (Below.mono hb9 ?_)) | (with_reducible refine Below.trans ?_ (Below.mono hb10 ?_)) | (with_reducible refine Below.trans ?_ (Below.mono hb11 ?_)) | (with_reducible refine Below.trans ?_ (Below.mono hb12 ?_)) | (with_reducible refine Below.trans ?_ (Below.mono hb13 ?_)) | (with_reducible refine Below.trans ?_ (Below.mono hb14 ?_)) | (with_reducible refine Below.trans ?_ (Below.mono hb15 ?_)) | omega | (simp; done) | (simp; omega)))
  · have hv : affV l s ts = low (affOf (knowns l s ts)).1 ((affOf (knowns l s ts)).2 * ts.length) := by simp only [affV, if_neg h0]
    rw [hv]
    clear hv
    have h0' : 0 < ts.length := by omega
    have hq0 : ((ts.length : Int) == 0) = false := beq_eq_false_iff_ne.2 (by omega)
    have hbdA := aff_bd (ts := ts) hlen hok htk htl
    clear h0
    go_enter Tryz.func140, Tryz.ntmps140
    go_wp2_with fail
    refine (zero_any _).mono ?_
    rintro e w0 ⟨rfl, hb0⟩
    have hz0 := hb0.size
    simp at hz0
    have hR := hR0.below hb0
    have hb0' : Below w.heap.size w w0 := by (repeat' (first | exact Below.refl _ _ | assumption | refine Below.setCell ?_ ?_ _ | refine below_drewN ?_ _ | refine Below.drew ?_ | refine Below.alloc ?_ ?_ _ | (with_reducible refine Below.trans ?_ (Below.mono hb ?_)) | (with_reducible refine Below.trans ?_ (Below.mono hb0 ?_)) | (with_reducible refine Below.trans ?_ (Below.mono hb1 ?_)) | (with_reducible refine Below.trans ?_ (Below.mono hb2 ?_)) | (with_reducible refine Below.trans ?_ (Below.mono hb3 ?_)) | (with_reducible refine Below.trans ?_ (Below.mono hb4 ?_)) | (with_reducible refine Below.trans ?_ (Below.mono hb5 ?_)) | (with_reducible refine Below.trans ?_ (Below.mono hb6 ?_)) | (with_reducible refine Below.trans ?_ (Below.mono hb7 ?_)) | (with_reducible refine Below.trans ?_ (Below.mono hb8 ?_)) | (with_reducible refine Below.trans ?_ (Below.mono hb9 ?_)) | (with_reducible refine Below.trans ?_ (Below.mono hb10 ?_)) | (with_reducible refine Below.trans ?_ (Below.mono hb11 ?_)) | (with_reducible refine Below.trans ?_ (Below.mono hb12 ?_)) | (with_reducible refine Below.trans ?_ (Below.mono hb13 ?_)) | (with_reducible refine Below.trans ?_ (Below.mono hb14 ?_)) | (with_reducible refine Below.trans ?_ (Below.mono hb15 ?_)) | omega | (simp; done) | (simp; omega)))
    go_wp2_with fail
    go_loopg [17] ts.length (fun gk i wr => ∃ k : Nat, i = .int .i64 k ∧ k ≤ ts.length ∧ Hid (gk = ts.length - k) ∧ Box wr w.heap.size 37 #[.int .i64 0, .int .i64 0] ∧ Box wr w0.heap.size 37 #[.int .i64 (affOf (knowns l s (ts.take k))).1, .int .i64 (affOf (knowns l s (ts.take k))).2] ∧ Below w.heap.size w wr)
    case atStart => exact ⟨0, rfl, by omega, rfl, hR.alloc _, Box.new _ _ _, by (repeat' (first | exact Below.refl _ _ | assumption | refine Below.setCell ?_ ?_ _ | refine below_drewN ?_ _ | refine Below.drew ?_ | refine Below.alloc ?_ ?_ _ | (with_reducible refine Below.trans ?_ (Below.mono hb ?_)) | (with_reducible refine Below.trans ?_ (Below.mono hb0 ?_)) | (with_reducible refine Below.trans ?_ (Below.mono hb1 ?_)) | (with_reducible refine Below.trans ?_ (Below.mono hb2 ?_)) | (with_reducible refine Below.trans ?_ (Below.mono hb3 ?_)) | (with_reducible refine Below.trans ?_ (Below.mono hb4 ?_)) | (with_reducible refine Below.trans ?_ (Below.mono hb5 ?_)) | (with_reducible refine Below.trans ?_ (Below.mono hb6 ?_)) | (with_reducible refine Below.trans ?_ (Below.mono hb7 ?_)) | (with_reducible refine Below.trans ?_ (Below.mono hb8 ?_)) | (with_reducible refine Below.trans ?_ (Below.mono hb9 ?_)) | (with_reducible refine Below.trans ?_ (Below.mono hb10 ?_)) | (with_reducible refine Below.trans ?_ (Below.mono hb11 ?_)) | (with_reducible refine Below.trans ?_ (Below.mono hb12 ?_)) | (with_reducible refine Below.trans ?_ (Below.mono hb13 ?_)) | (with_reducible refine Below.trans ?_ (Below.mono hb14 ?_)) | (with_reducible refine Below.trans ?_ (Below.mono hb15 ?_)) | omega | (simp; done) | (simp; omega)))⟩
    case round =>
      clear hR hR0
      obtain ⟨k, rfl, hk, hgk, hR, hO, hb⟩ := hrel
      have hz := hb.size
      have hO1 := hO.lt
      by_cases hlt : k < ts.length
      · obtain ⟨b, off, ha, c0⟩ := (ht.below hb).str hlt
        have Hst := Lib.hid (aff_snoc l s hlt)
        obtain ⟨⟨q1, q2⟩, q3, q4⟩ := aff_bd (l := l) (s := s) (ts := ts.take k) hlen hok (fun x hx => htk x (List.mem_of_mem_take hx)) (by rw [List.length_take]; omega)
        obtain ⟨⟨q5, q6⟩, q7, q8⟩ := best_bd2 ts[k] hlen hok (htk ts[k] (List.getElem_mem hlt))
        have HB := Lib.hid (fun w h1 h2 => best_any l fb s a2 cap2 ts[k] w h1 h2 hlen hsl hok.ok)
        rw [ha]
        unfold affStep at Hst
        unfold becV at HB
        generalize affOf (knowns l s (ts.take k)) = A at *
        generalize bestOf l s ts[k] = o at *
        generalize ts[k] = t at *
        obtain ⟨A1, A2⟩ := A
        obtain ⟨o1, o2, o3⟩ := o
        simp only at q1 q2 q3 q4 q5 q6 q7 q8 hO Hst HB
        have hm1 := mul_bd2 q1 q2 (by omega : 0 ≤ o3) q8
        have hm2 := mul_bd2 q5 q6 (by omega : 0 ≤ A2) q4
        have hm3 := mul_pos A2 o3 q3 q7
        have hm4 := (mul_bd2 (by omega : 0 ≤ A2) q4 (by omega : 0 ≤ o3) q8).2
        have HP := Lib.hid (fun w => plus_any A1 A2 o2 o3 w (by omega) (by omega) (by omega) (by omega) (by omega))
        unfold low at HP
        generalize lowN (A1 * o3 + o2 * A2) (A2 * o3) = pn at *
        generalize lowD (A1 * o3 + o2 * A2) (A2 * o3) = pd at *
        have hFr := hF.below hb
        have hsr := hs.below hb
        have hO_l := hO.lt; have hO_0 := hO.cell 0; have hO_1 := hO.cell 1; simp at hO_0 hO_1
        have hO_f0 := hO.frozen 0; have hO_f1 := hO.frozen 1
        have hfld : ∀ W, (Instr.field 132 (.agg #[.string t, .string o1, .int .i64 o2, .int .i64 o3]) 2).run Tryz.prog W = .ok (.agg #[.int .i64 o2, .int .i64 o3]) W := fun _ => by kernel_rfl
        clear hm1 hm2 hm3 hm4 hbdA
        go_wp2_with fail
        go_region_with (first | (go_at_call 87; refine (HB.out _ (hFr.below (Below.refl _ _).drew) hsr.drew).mono ?_; rintro e w1 ⟨rfl, hb1⟩; have hOa := hO.drew.below hb1; have hOa_l := hOa.lt; have hOa_0 := hOa.cell 0; have hOa_1 := hOa.cell 1; simp at hOa_0 hOa_1) | (go_at_call 117; refine (HP.out _).mono ?_; rintro e w2 ⟨rfl, hb2⟩; have hOb := hOa.below hb2; have hOb_l := hOb.lt; have hOb_0 := hOb.cell 0; have hOb_1 := hOb.cell 1; simp at hOb_0 hOb_1; have hOb_f0 := hOb.frozen 0; have hOb_f1 := hOb.frozen 1))
        all_goals
          have hz1 := hb1.size
          have hz2 := hb2.size
          simp at hz1 hz2
          have hRb := (hR.drew.below hb1).below hb2
          have hbw : Below w.heap.size w w2 := below_next (below_next hb.drew hb1) hb2
          clear hfld
          go_wp2_with fail
          rw [← ha]
          go_roundg (ts.length - (k + 1))
          case measure => have := hgk.out; omega
          case rel => exact ⟨k + 1, by go_num, by omega, rfl, (hRb.setOther (show w0.heap.size ≠ w.heap.size by omega) _).setOther (show w0.heap.size ≠ w.heap.size by omega) _, by rw [Hst.out]; exact (hOb.set 0 _).set 1 _, by (repeat' (first | exact Below.refl _ _ | assumption | refine Below.setCell ?_ ?_ _ | refine below_drewN ?_ _ | refine Below.drew ?_ | refine Below.alloc ?_ ?_ _ | (with_reducible refine Below.trans ?_ (Below.mono hb ?_)) | (with_reducible refine Below.trans ?_ (Below.mono hb0 ?_)) | (with_reducible refine Below.trans ?_ (Below.mono hb1 ?_)) | (with_reducible refine Below.trans ?_ (Below.mono hb2 ?_)) | (with_reducible refine Below.trans ?_ (Below.mono hb3 ?_)) | (with_reducible refine Below.trans ?_ (Below.mono hb4 ?_)) | (with_reducible refine Below.trans ?_ (Below.mono hb5 ?_)) | (with_reducible refine Below.trans ?_ (Below.mono hb6 ?_)) | (with_reducible refine Below.trans ?_ (Below.mono hb7 ?_)) | (with_reducible refine Below.trans ?_ (Below.mono hb8 ?_)) | (with_reducible refine Below.trans ?_ (Below.mono hb9 ?_)) | (with_reducible refine Below.trans ?_ (Below.mono hb10 ?_)) | (with_reducible refine Below.trans ?_ (Below.mono hb11 ?_)) | (with_reducible refine Below.trans ?_ (Below.mono hb12 ?_)) | (with_reducible refine Below.trans ?_ (Below.mono hb13 ?_)) | (with_reducible refine Below.trans ?_ (Below.mono hb14 ?_)) | (with_reducible refine Below.trans ?_ (Below.mono hb15 ?_)) | omega | (simp; done) | (simp; omega)))⟩
      · obtain rfl : k = ts.length := by omega
        rw [List.take_length] at hO
        obtain ⟨⟨q1, q2⟩, q3, q4⟩ := hbdA
        generalize affOf (knowns l s ts) = A at *
        obtain ⟨A1, A2⟩ := A
        simp only at q1 q2 q3 q4 hO
        have hm := mul_bd2 (by omega : 0 ≤ A2) q4 (by omega : (0 : Int) ≤ ts.length) (by omega : (ts.length : Int) ≤ 8)
        have hm2 := mul_pos A2 ts.length q3 (by omega)
        have HL := Lib.hid (fun w => lowest_any A1 (A2 * ts.length) w (by omega) (by omega) hm2)
        have hO_l := hO.lt; have hO_0 := hO.cell 0; have hO_1 := hO.cell 1; simp at hO_0 hO_1
        go_wp2_with fail
        refine (HL.out _).mono ?_
        rintro e w1 ⟨rfl, hb1⟩
        have hz1 := hb1.size
        have hR1 := hR.below hb1
        have hR1_f0 := hR1.frozen 0; have hR1_f1 := hR1.frozen 1
        have hR1_l := hR1.lt; have hR1_0 := hR1.cell 0; have hR1_1 := hR1.cell 1; simp at hR1_0 hR1_1
        unfold low
        go_wp2_with fail
        refine bodyPost_ret (v := .agg #[.int .i64 (lowN A1 (A2 * ts.length)), .int .i64 (lowD A1 (A2 * ts.length))]) (by simp only [results, Tryz.results140]; go_simp) rfl ⟨rfl, ?_⟩
        (repeat' (first | exact Below.refl _ _ | assumption | refine Below.setCell ?_ ?_ _ | refine below_drewN ?_ _ | refine Below.drew ?_ | refine Below.alloc ?_ ?_ _ | (with_reducible refine Below.trans ?_ (Below.mono hb ?_)) | (with_reducible refine Below.trans ?_ (Below.mono hb0 ?_)) | (with_reducible refine Below.trans ?_ (Below.mono hb1 ?_)) | (with_reducible refine Below.trans ?_ (Below.mono hb2 ?_)) | (with_reducible refine Below.trans ?_ (Below.mono hb3 ?_)) | (with_reducible refine Below.trans ?_ (Below.mono hb4 ?_)) | (with_reducible refine Below.trans ?_ (Below.mono hb5 ?_)) | (with_reducible refine Below.trans ?_ (Below.mono hb6 ?_)) | (with_reducible refine Below.trans ?_ (Below.mono hb7 ?_)) | (with_reducible refine Below.trans ?_ (Below.mono hb8 ?_)) | (with_reducible refine Below.trans ?_ (Below.mono hb9 ?_)) | (with_reducible refine Below.trans ?_ (Below.mono hb10 ?_)) | (with_reducible refine Below.trans ?_ (Below.mono hb11 ?_)) | (with_reducible refine Below.trans ?_ (Below.mono hb12 ?_)) | (with_reducible refine Below.trans ?_ (Below.mono hb13 ?_)) | (with_reducible refine Below.trans ?_ (Below.mono hb14 ?_)) | (with_reducible refine Below.trans ?_ (Below.mono hb15 ?_)) | omega | (simp; done) | (simp; omega)))
end Go.Proofs.YtpgofjjcmldhpaaGreatDoor
