/- The makers of topics: h06one, TopicKey, RightForest; slices.Clone of topics. -/
import Derived.Test.YtpgofjjcmldhpaaGreatDoorTopic2
import Derived.Test.YtpgofjjcmldhpaaGreatDoorStream
import Derived.Shelf.SlicesE.Clone
import Derived.RegionTactic
import Derived.ChangeAlike
import Derived.BigRegion
import Derived.Test.YtpgofjjcmldhpaaGreatDoorForest
/-! The makers of topics: h06one, TopicKey, RightForest; slices.Clone of topics. -/
namespace Go.Proofs.YtpgofjjcmldhpaaGreatDoor
open Go.RowKit
set_option linter.unusedVariables false




/-- A forest is made. -/
def SomeForest (S : Nat) (B : Int) (n : Nat) (w : World) (e : Ending) (w' : World) : Prop :=
  ∃ (a : Option Addr) (cap : Nat) (l : List Topic), e = .returned (.slice a l.length cap) ∧ l.length ≤ n ∧ l.length ≤ cap ∧ SmallT l ∧ SA w' a l ∧ (a = none ∨ ∃ b off, a = some ⟨b, off, none⟩ ∧ b ≠ S) ∧ Stp S w w' ∧ Strm S B w'

theorem smallT_cons {l : List Topic} {k v : ByteArray} (hk : k.size ≤ 1000) (hv : v.size ≤ 1000) (h : SmallT l) : SmallT ((k, v) :: l) := fun t ht => by
  rcases List.mem_cons.1 ht with rfl | ht
  · exact ⟨by show k.size ≤ _; omega, by show v.size ≤ _; omega⟩
  · exact h t ht
theorem smallT_nil : SmallT [] := fun t ht => by cases ht
theorem SmallT.take {l : List Topic} (h : SmallT l) (n : Nat) : SmallT (l.take n) := fun t ht => h t (List.mem_of_mem_take ht)

end Go.Proofs.YtpgofjjcmldhpaaGreatDoor

/-! RightForest. -/
namespace Go.Proofs.YtpgofjjcmldhpaaGreatDoor
open Go.RowKit
set_option linter.unusedVariables false

set_option maxRecDepth 100000 in
set_option maxHeartbeats 1000000 in
theorem rightForest_any (S : Nat) (B : Int) (w : World) (hs : Strm S B w) (hB : B ≤ 999999900) :
    Calls Tryz.prog 40 #[.pointer (some ⟨S, 0, none⟩)] w (SomeForest S (B + 5) 6 w) := by
  have hS := hs.lt
  go_enter Tryz.func40, Tryz.ntmps40
  go_wp2_with fail
  refine (one_any S B _ 3 3 9 _ _ (hs.alloc _) (by omega) (Box.new _ _ _) (by omega) rfl (by omega) (by omega) (by simp; decide)).mono ?_
  rintro e w1 ⟨x, hx, rfl, h1, s1⟩
  have h1' := ((Stp.refl S w).alloc _).trans h1
  have hS1 := s1.lt
  clear h1
  go_wp2_with fail
  refine (one_any S (B + 1) _ 2 2 9 _ _ (s1.alloc _) (by omega) (Box.new _ _ _) (by omega) rfl (by omega) (by omega) (by simp; decide)).mono ?_
  rintro e w2 ⟨y, hy, rfl, h2, s2⟩
  have h2' := (h1'.alloc _).trans h2
  have hS2 := s2.lt
  clear h2 h1' s1
  go_wp2_with fail
  refine (one_any S (B + 1 + 1) _ 3 3 9 _ _ (s2.alloc _) (by omega) (Box.new _ _ _) (by omega) rfl (by omega) (by omega) (by simp; decide)).mono ?_
  rintro e w3 ⟨z, hz, rfl, h3, s3⟩
  have h3' := (h2'.alloc _).trans h3
  have hS3 := s3.lt
  clear h3 h2' s2
  go_wp2_with fail
  refine (flip_any S (B + 1 + 1 + 1) 3 _ (s3.alloc _) (by omega) (by omega) (by omega)).mono ?_
  rintro e w4 ⟨r, rfl, h4, s4⟩
  have hbox := (Box.new w3 _ _).stp h4 (by omega)
  obtain ⟨L, hL⟩ : ∃ L : List Topic, L = [(⟨#[97, 114, 116]⟩, ⟨#[]⟩), (⟨#[98, 114, 101, 97, 100]⟩, ⟨#[]⟩), (⟨#[99, 97, 107, 101]⟩, ⟨#[98, 114, 101, 97, 100]⟩), (⟨#[100, 97, 114, 107]⟩, x), (⟨#[114, 111, 108, 108, 115]⟩, y), (⟨#[114, 121, 101]⟩, z)] := ⟨_, rfl⟩
  have hsa : SA w4 (some ⟨w3.heap.size, 0, none⟩) L := hbox.sa L (by rw [hL]; rfl)
  have hLl : L.length = 6 := by rw [hL]; rfl
  have hLs : SmallT L := by rw [hL]; exact smallT_cons (by decide) (by decide) (smallT_cons (by decide) (by decide) (smallT_cons (by decide) (by decide) (smallT_cons (by decide) hx (smallT_cons (by decide) hy (smallT_cons (by decide) hz smallT_nil)))))
  have h4' := (h3'.alloc _).trans h4
  have hS4 := s4.lt
  clear hL hbox h4 h3' s3
  cases r
  · have HF := Lib.hid (forestFault_any L _ 6 w4 hsa (by omega) hLs)
    rw [hLl] at HF
    go_wp2_with fail
    refine HF.out.mono ?_
    rintro e w5 ⟨rfl, hb5⟩
    by_cases hf : forestFault L = 0
    · rw [hf]
      go_wp2_with fail
      go_ret
      exact ⟨some ⟨w3.heap.size, 0, none⟩, 6, L, by rw [hLl]; rfl, by omega, by omega, hLs, hsa.below hb5, .inr ⟨_, _, rfl, by omega⟩, h4'.trans (Stp.of_below hb5), (s4.below hb5).mono (by omega)⟩
    · have hq : (forestFault L != 0) = true := by simpa using hf
      generalize forestFault L = er at *
      go_wp2_with fail
      go_ret
      exact ⟨none, 0, [], rfl, by simp, by simp, smallT_nil, .inl rfl, .inl rfl, h4'.trans (Stp.of_below hb5), (s4.below hb5).mono (by omega)⟩
  · go_wp2_with fail
    refine (next_any S (B + 1 + 1 + 1 + 1) 3 _ s4 (by omega) (by omega) (by omega)).mono ?_
    rintro e w5 ⟨r, ⟨hr, hr2⟩, rfl, h5, s5⟩
    obtain ⟨i, rfl⟩ := Int.eq_ofNat_of_zero_le hr
    have hi : i < 3 := by omega
    have hsa5 : SA w5 (some ⟨w3.heap.size, 0, none⟩) (L.take i) := by
      have := hsa.stp h5 (fun x hx => by cases hx; simp; omega)
      rcases this with h | ⟨b, off, h, ha⟩
      · subst h; exact .inl (by simp)
      · exact .inr ⟨b, off, h, ha.take i⟩
    have hLl2 : (L.take i).length = i := by rw [List.length_take]; omega
    have HF := Lib.hid (forestFault_any (L.take i) _ 6 w5 hsa5 (by omega) (hLs.take i))
    rw [hLl2] at HF
    have h5' := h4'.trans h5
    have hS5 := s5.lt
    clear h5 h4' hr hsa
    go_wp2_with fail
    refine HF.out.mono ?_
    rintro e w6 ⟨rfl, hb5⟩
    by_cases hf : forestFault (L.take i) = 0
    · rw [hf]
      go_wp2_with fail
      go_ret
      exact ⟨some ⟨w3.heap.size, 0, none⟩, 6, L.take i, by rw [hLl2]; rfl, by omega, by omega, hLs.take i, hsa5.below hb5, .inr ⟨_, _, rfl, by omega⟩, h5'.trans (Stp.of_below hb5), (s5.below hb5).mono (by omega)⟩
    · have hq : (forestFault (L.take i) != 0) = true := by simpa using hf
      generalize forestFault (L.take i) = er at *
      go_wp2_with fail
      go_ret
      exact ⟨none, 0, [], rfl, by simp, by simp, smallT_nil, .inl rfl, .inl rfl, h5'.trans (Stp.of_below hb5), (s5.below hb5).mono (by omega)⟩
end Go.Proofs.YtpgofjjcmldhpaaGreatDoor

/-! slices.Clone and slices.Reverse of topics. -/
namespace Go.Proofs.YtpgofjjcmldhpaaGreatDoor
open Go.RowKit
set_option linter.unusedVariables false

def Tryz.laysCloneTopic_ren : Go.Shelf.Ren := ⟨fun | 41 => 41 | n => n, fun | 22 => 26 | 23 => 80 | 4 => 4 | n => n, fun | n => n⟩
theorem Tryz.laysCloneTopic : Go.Proofs.SlLaysE0.n41 Tryz.prog Tryz.laysCloneTopic_ren := {
  mixed := by kernel_rfl
  f41 := ⟨Tryz.f41.name, by decide, Tryz.func41.trans (congrArg some (by kernel_rfl))⟩
  t4 := Tryz.underlying4
  a4 := Tryz.isAgg4
  z4 := Tryz.sizeOf4
  v4 := Tryz.zeroValue4
  t22 := Tryz.underlying26
  a22 := Tryz.isAgg26
  z22 := Tryz.sizeOf26
  v22 := Tryz.zeroValue26 }

theorem Tryz.infoTopic : (Tryz.prog.info? 80).map (fun i => (i.zero, i.size, i.bytes)) = some (some (.agg #[.string ⟨#[]⟩, .string ⟨#[]⟩]), 2, 32) := by kernel_rfl

theorem flat_len {α : Type} [Cel α] (l : List α) : (l.flatMap Cel.cells).length = l.length * Cel.k α := by
  induction l with
  | nil => simp
  | cons x r ih => rw [List.flatMap_cons, List.length_append, ih, Cel.len, List.length_cons, Nat.add_mul]; omega
theorem flat_one {α : Type} [Cel α] (l : List α) : ∀ u ∈ l.flatMap Cel.cells, u.oneCell' = true := fun u hu => by
  obtain ⟨x, _, hx⟩ := List.mem_flatMap.1 hu
  exact Cel.one x u hx
theorem ArrAt.flat {α : Type} [Cel α] {w : World} {b off : Nat} {l : List α} (h : ArrAt w b off l) : ∀ j u, (l.flatMap Cel.cells)[j]? = some u → w.cell? ⟨b, off + j, none⟩ = some u := fun j u hu => by
  have hj : j < l.length * Cel.k α := by rw [← flat_len]; exact (List.getElem?_eq_some_iff.1 hu).1
  have hp := Cel.pos (α := α)
  have hi : j / Cel.k α < l.length := Nat.div_lt_of_lt_mul (by rw [Nat.mul_comm]; exact hj)
  have hm : j % Cel.k α < Cel.k α := Nat.mod_lt _ hp
  have hd : j / Cel.k α * Cel.k α + j % Cel.k α = j := by rw [Nat.mul_comm]; exact Nat.div_add_mod j _
  have h1 := h (j / Cel.k α) (j % Cel.k α) _ (List.getElem?_eq_getElem hi) hm
  have h2 := flat_get l (j / Cel.k α) (j % Cel.k α) _ (List.getElem?_eq_getElem hi) hm
  rw [hd] at h1 h2
  rw [h1, ← h2, hu]

theorem cloneTopic_any (l : List Topic) (a : Option Addr) (cap : Nat) (w : World) (h : SA w a l) (hp : a = none ∨ ∃ b off, a = some ⟨b, off, none⟩) (hlen : l.length ≤ 1000000000) :
    Calls Tryz.prog 41 #[.slice a l.length cap] w (GivesOwn 80 l w) := by
  obtain ⟨i0, hi, hz0, hz1, hz2⟩ := info_parts Tryz.infoTopic
  cases a with
  | none =>
    rcases h with rfl | ⟨b, off, h, _⟩
    · refine (AnyE.slices_Clone_nil Tryz.laysCloneTopic 0 cap w).mono ?_
      rintro e w' ⟨rfl, rfl⟩
      exact ⟨_, rfl, Own.nil _ _ _, Below.refl _ _⟩
    · cases h
  | some x =>
    obtain ⟨b, off, rfl⟩ : ∃ b off, x = ⟨b, off, none⟩ := by
      rcases hp with hp | ⟨b, off, hp⟩
      · cases hp
      · cases hp; exact ⟨b, off, rfl⟩
    have ha : ArrAt w b off l := by
      rcases h with rfl | ⟨b, off, h, ha⟩
      · intro i j x hx; simp at hx
      · cases h; exact ha
    refine (AnyE.slices_Clone Tryz.laysCloneTopic i0 _ 2 32 hi hz0 hz1 hz2 (by rfl) (by omega) Tryz.sizeOf80 b off l.length cap (l.flatMap Cel.cells) w (flat_len l) (by unfold maxLen; omega) (by omega) ha.flat (flat_one l)).mono ?_
    rintro e w' ⟨v, rfl, h1, _, h2⟩
    exact ⟨v, rfl, h1, h2⟩



/-- Four stores of an exchange. -/
theorem Own.setT {w : World} {base : Nat} {E : TypeId} {g n cap : Nat} {l : List Topic} (h : Own base E w (.slice (some ⟨g, 0, none⟩) n cap) l) (hsm : SmallT l) (i : Nat) (hi : i < l.length) (x y : ByteArray) (hx : x.size ≤ 1000000) (hy : y.size ≤ 1000000) :
    ∃ l', l'.length = l.length ∧ SmallT l' ∧ Own base E ((w.setCell ⟨g, i * 2, none⟩ (.string x)).setCell ⟨g, i * 2 + 1, none⟩ (.string y)) (.slice (some ⟨g, 0, none⟩) n cap) l' := by
  have h1 := h.put i 0 (x, l[i].2) (.string x) hi (by decide) rfl
  have h2 := h1.put i 1 (x, y) (.string y) (by simpa using hi) (by decide) (by simp; rfl)
  refine ⟨_, ?_, ?_, h2⟩
  · simp
  · intro t ht
    rcases List.mem_or_eq_of_mem_set ht with ht | rfl
    · rcases List.mem_or_eq_of_mem_set ht with ht | rfl
      · exact hsm t ht
      · exact ⟨hx, (hsm _ (List.getElem_mem hi)).2⟩
    · exact ⟨hx, hy⟩

/-- A forest of one's own was turned round in place. -/
def TurnedT (base n cap : Nat) (a : Option Addr) (w : World) (e : Ending) (w' : World) : Prop :=
  ∃ l' : List Topic, e = .returned (.tuple #[]) ∧ l'.length = n ∧ SmallT l' ∧ Own base 80 w' (.slice a n cap) l' ∧ Below base w w'

set_option maxRecDepth 100000 in
set_option maxHeartbeats 2000000 in
theorem reverse_any (base : Nat) (l : List Topic) (a : Option Addr) (cap : Nat) (w : World) (hown : Own base 80 w (.slice a l.length cap) l) (hlen : l.length ≤ 1000000) (hsm : SmallT l) :
    Calls Tryz.prog 44 #[.slice a l.length cap] w (TurnedT base l.length cap a w) := by
  obtain ⟨n, hn⟩ : ∃ n, l.length = n := ⟨_, rfl⟩
  rw [hn] at hown hlen ⊢
  have Hn := Lib.hid hn
  clear hn
  go_enter Tryz.func44, Tryz.ntmps44
  go_wp2_with fail
  go_loopg [2, 3] n (fun gk i j wr => ∃ (k : Nat) (l' : List Topic), i = .int .i64 k ∧ j = .int .i64 ((n : Int) - 1 - k) ∧ k ≤ n ∧ Hid (gk = n - k) ∧ Hid (l'.length = n) ∧ Hid (SmallT l') ∧ Own base 80 wr (.slice a n cap) l' ∧ Below base w wr)
  case atStart => exact ⟨0, l, rfl, by simp, by omega, rfl, Hn.out, hsm, hown, Below.refl _ _⟩
  case round =>
    obtain ⟨k, l', rfl, rfl, hk, hgk, hl', hs', hown', hb⟩ := hrel
    by_cases hlt : 2 * k + 1 < n
    · obtain ⟨m, hm⟩ : ∃ m : Nat, m + k + 1 = n := ⟨n - 1 - k, by omega⟩
      have hmi : (n : Int) - 1 - k = m := by omega
      rw [hmi]
      obtain ⟨a', cap', he, hsa, hbl, _⟩ := hown'.sa
      simp only [Value.slice.injEq] at he
      obtain ⟨rfl, -, rfl⟩ := he
      obtain ⟨g, off, ha, c0, c1⟩ := hsa.topic (i := k) (by have := hl'.out; omega)
      have hg0 : off = 0 := by
        obtain ⟨_, h2⟩ := hown'
        rcases h2 with ⟨h2, _⟩ | ⟨g', cap', cur, he, _⟩
        · simp at h2; rw [h2.1] at ha; cases ha
        · cases he; cases ha; rfl
      subst hg0
      obtain ⟨g2, off2, ha2, d0, d1⟩ := hsa.topic (i := m) (by have := hl'.out; omega)
      rw [ha] at ha2
      cases ha2
      rw [ha] at hown'
      obtain ⟨cur, hbx⟩ := hown'.box
      rw [Nat.zero_add] at c0 c1 d0 d1
      have f0 := hbx.frozen (k * 2)
      have f1 := hbx.frozen (k * 2 + 1)
      have f2 := hbx.frozen (m * 2)
      have f3 := hbx.frozen (m * 2 + 1)
      have hk' : k < l'.length := by have := hl'.out; omega
      have hm' : m < l'.length := by have := hl'.out; omega
      have Hk1 := Lib.hid (hs'.out _ (List.getElem_mem hk'))
      have Hm1 := Lib.hid (hs'.out _ (List.getElem_mem hm'))
      have Hown := Lib.hid hown'
      have hkm : k ≠ m := by omega
      generalize l'[k].1 = x1 at *
      generalize l'[k].2 = x2 at *
      generalize l'[m].1 = y1 at *
      generalize l'[m].2 = y2 at *
      rw [ha]
      clear hsa hbl hbx
      go_wp2_with fail
      go_region
      go_wp2_with fail
      rw [← ha]
      go_roundg (n - (k + 1))
      case measure => have := hgk.out; omega
      case rel =>
        obtain ⟨l1, q1, q2, q3⟩ := Hown.out.setT hs'.out k hk' y1 y2 Hm1.out.1 Hm1.out.2
        obtain ⟨l2, q4, q5, q6⟩ := q3.setT q2 m (by omega) x1 x2 Hk1.out.1 Hk1.out.2
        have hg := (hown'.lt g rfl).1
        exact ⟨k + 1, l2, by go_num, by go_num, by omega, rfl, by have := hl'.out; show l2.length = n; omega, q5, by rw [ha]; exact q6.drew, ((((hb.setCell hg _).setCell hg _).setCell hg _).setCell hg _).drew⟩
    · go_wp2_with fail
      go_end0
      exact ⟨l', rfl, hl'.out, hs'.out, hown', hb⟩
end Go.Proofs.YtpgofjjcmldhpaaGreatDoor

/-! The maker Forest. -/
namespace Go.Proofs.YtpgofjjcmldhpaaGreatDoor
open Go.RowKit
set_option linter.unusedVariables false

theorem Own.forest {S : Nat} {B : Int} {n base : Nat} {w w' : World} {v : Value} {l : List Topic} (h : Own base 80 w' v l) (hS : S < base) (hn : l.length ≤ n) (hsm : SmallT l) (hst : Stp S w w') (hs : Strm S B w') : SomeForest S B n w (.returned v) w' := by
  obtain ⟨a, cap, rfl, h1, h2, h3⟩ := h.form
  refine ⟨a, cap, l, rfl, hn, h3, hsm, h1, ?_, hst, hs⟩
  rcases h2 with h2 | ⟨b, h2, h4⟩
  · exact .inl h2
  · exact .inr ⟨b, 0, h2, by omega⟩
theorem SmallT.snoc {l : List Topic} {k v : ByteArray} (h : SmallT l) (hk : k.size ≤ 1000) (hv : v.size ≤ 1000) : SmallT (l ++ [(k, v)]) := fun t ht => by
  rcases List.mem_append.1 ht with ht | ht
  · exact h t ht
  · rw [List.mem_singleton] at ht; subst ht; exact ⟨by show k.size ≤ _; omega, by show v.size ≤ _; omega⟩

set_option maxRecDepth 100000 in
set_option maxHeartbeats 4000000 in
theorem forest_any (S : Nat) (B : Int) (w : World) (hs : Strm S B w) (hB : B ≤ 999999900) :
    Calls Tryz.prog 5 #[.pointer (some ⟨S, 0, none⟩)] w (SomeForest S (B + 20) 12 w) := by
  go_enter Tryz.func5, Tryz.ntmps5
  go_wp2_with fail
  refine (rightForest_any S B w hs hB).mono ?_
  rintro e w1 ⟨a, cap, l, rfl, hl6, hcap, hsm, hsa, hp, h1, s1⟩
  go_wp2_with fail
  refine (flip_any S (B + 5) 12 w1 s1 (by omega) (by omega) (by omega)).mono ?_
  rintro e w2 ⟨r, rfl, h2, s2⟩
  have h2' := h1.trans h2
  have hsa2 : SA w2 a l := hsa.stp h2 (fun x hx => by rcases hp with hp | ⟨b, off, hp, hS⟩ <;> rw [hp] at hx <;> cases hx; exact hS)
  have hp2 : a = none ∨ ∃ b off, a = some ⟨b, off, none⟩ := by
    rcases hp with hp | ⟨b, off, hp, _⟩
    · exact .inl hp
    · exact .inr ⟨b, off, hp⟩
  have hS2 := s2.lt
  have hz0 := h2'.size
  cases r
  · go_wp2_with fail
    go_ret
    exact ⟨a, cap, l, rfl, by omega, hcap, hsm, hsa2, hp, h2', s2.mono (by omega)⟩
  go_wp2_with fail
  refine (cloneTopic_any l a cap w2 hsa2 hp2 (by omega)).mono ?_
  rintro e w3 ⟨v, rfl, hown, hb3⟩
  have h3' := h2'.trans (Stp.of_below hb3)
  have s3 := s2.below hb3
  have hz3 := hb3.size
  clear hp hp2 hsa hsa2 h1 h2 s1 s2 hb3 h2'
  go_wp2_with fail
  refine (next_any S (B + 5 + 1) 4 w3 s3 (by omega) (by omega) (by omega)).mono ?_
  rintro e w4 ⟨r, ⟨hr, hr2⟩, rfl, h4, s4⟩
  have h4' := h3'.trans h4
  have hown4 := hown.stp h4 hS2
  have hS4 := s4.lt
  have hz2 : w2.heap.size ≤ w4.heap.size := Nat.le_trans hz3 h4.size
  clear h4 h3' s3 hown
  obtain rfl | rfl | rfl | rfl : r = 0 ∨ r = 1 ∨ r = 2 ∨ r = 3 := by omega
  · go_wp2_with fail
    refine (one_any S (B + 5 + 1 + 1) _ 4 4 9 _ _ (s4.alloc _) (by omega) (Box.new _ _ _) (by omega) rfl (by omega) (by omega) (by simp; decide)).mono ?_
    rintro e w5 ⟨x, hx, rfl, h5, s5⟩
    have h5' := (h4'.alloc _).trans h5
    have hown5 := (hown4.alloc _).stp h5 hS2
    have hS5 := s5.lt
    have hz5 := h5.size
    simp at hz5
    clear h5 s4 h4' hown4
    go_wp2_with fail
    refine (one_any S (B + 5 + 1 + 1 + 1) _ 4 4 9 _ _ (s5.alloc _) (by omega) (Box.new _ _ _) (by omega) rfl (by omega) (by omega) (by simp; decide)).mono ?_
    rintro e w6 ⟨y, hy, rfl, h6, s6⟩
    have h6' := (h5'.alloc _).trans h6
    have hown6 := (hown5.alloc _).stp h6 hS2
    have hS6 := s6.lt
    have hz6 := h6.size
    simp at hz6
    clear h6 s5 h5' hown5
    go_upto_region 20 with (at_builtin; refine wpList_append_one rfl _ _ 26 rfl w2.heap.size 80 32 (.agg #[.string ⟨#[]⟩, .string ⟨#[]⟩]) Tryz.underlying26 Tryz.infoTopic rfl _ l rfl (hown6.alloc _) (x, y) _ rfl (Box.newAt _ _ _ _ ?c0) ?c1 ?c2 ?c3 ?_; rotate_left 4; intro v' w7 hown7 hg7)
    case c0 => rfl
    case c1 => omega
    case c2 => omega
    case c3 => simp; omega
    have s7 : Strm S (B + 5 + 1 + 1 + 1 + 1) w7 := (s6.alloc _).grown hg7 (fun k hk => by have := (hown6.lt k hk).1; omega)
    have h7 : Stp S w w7 := (h6'.alloc _).grown hg7 (fun k hk => .inr (by have := (hown6.lt k hk).1; omega))
    go_wp2_with fail
    go_ret
    exact hown7.forest hS2 (by simp; omega) (hsm.snoc hx hy) h7 (s7.mono (by omega))
  · obtain ⟨a4, cap4, rfl, hsa4, hf4, _⟩ := hown4.form
    by_cases hl0 : l.length = 0
    · have hfin : SomeForest S (B + 20) 12 w _ w4 := hown4.forest hS2 (by omega) hsm h4' (s4.mono (by omega))
      rw [hl0] at hfin ⊢
      go_wp2_with fail
      go_ret
      exact hfin
    · obtain ⟨g, rfl, hg1, hg2⟩ : ∃ b, a4 = some ⟨b, 0, none⟩ ∧ w2.heap.size ≤ b ∧ b < w4.heap.size := by
        rcases hf4 with hf4 | hf4
        · obtain ⟨b, off, h, _⟩ := hsa4.at (i := 0) (by omega)
          rw [hf4] at h; cases h
        · exact hf4
      have hlp : 0 < l.length := by omega
      obtain ⟨n, hn⟩ : ∃ n, l.length = n := ⟨_, rfl⟩
      rw [hn] at hlp hl6 hown4 ⊢
      have Hn := Lib.hid hn
      clear hn hl0
      go_wp2_with fail
      refine (next_any S (B + 5 + 1 + 1) n w4 s4 (by omega) (by omega) (by omega)).mono ?_
      rintro e w5 ⟨r, ⟨hr, hr2⟩, rfl, h5, s5⟩
      obtain ⟨i, rfl⟩ := Int.eq_ofNat_of_zero_le hr
      have hi : i < n := by omega
      have h5' := h4'.trans h5
      have hown5 := hown4.stp h5 hS2
      have hS5 := s5.lt
      have hz5 := h5.size
      clear h5 s4 h4' hown4 hr
      go_wp2_with fail
      refine (one_any S (B + 5 + 1 + 1 + 1) _ 5 5 9 _ _ (s5.alloc _) (by omega) (Box.new _ _ _) (by omega) rfl (by omega) (by omega) (by simp; decide)).mono ?_
      rintro e w6 ⟨y, hy, rfl, h6, s6⟩
      have h6' := (h5'.alloc _).trans h6
      have hown6 := (hown5.alloc _).stp h6 hS2
      have hS6 := s6.lt
      have hz6 := h6.size
      simp at hz6
      clear h6 s5 h5' hown5
      obtain ⟨cur, hbx⟩ := hown6.box
      obtain ⟨a6, cap6, he, hsa6, _, _⟩ := hown6.form
      simp only [Value.slice.injEq] at he
      obtain ⟨rfl, -, rfl⟩ := he
      have hil : i < l.length := by have := Hn.out; omega
      obtain ⟨b, off, ha, c0, c1⟩ := hsa6.topic hil
      cases ha
      rw [Nat.zero_add] at c0 c1
      have f0 := hbx.frozen (i * 2 + 1)
      have hown7 := hown6.put i 1 (l[i].1, y) (.string y) hil (by decide) rfl
      have hsm7 : SmallT (l.set i (l[i].1, y)) := fun t ht => by
        rcases List.mem_or_eq_of_mem_set ht with ht | rfl
        · exact hsm t ht
        · exact ⟨(hsm _ (List.getElem_mem hil)).1, by show y.size ≤ _; omega⟩
      have hn7 : (l.set i (l[i].1, y)).length ≤ 12 := by rw [List.length_set, Hn.out]; omega
      generalize l.set i (l[i].1, y) = l7 at hown7 hsm7 hn7
      generalize l[i].1 = x1 at *
      generalize l[i].2 = x2 at *
      go_wp2_with fail
      go_ret
      exact hown7.forest hS2 hn7 hsm7 (h6'.setCell (.inr (by simp; omega)) _) ((s6.setOther (by simp; omega) _).mono (by omega))
  · go_wp2_with fail
    go_loopg [3, 45] 6 (fun gk v i wr => ∃ (k : Nat) (l' : List Topic), i = .int .i64 k ∧ k ≤ 6 ∧ Hid (gk = 6 - k) ∧ Hid (l'.length ≤ 6 + k) ∧ Hid (SmallT l') ∧ Own w2.heap.size 80 wr v l' ∧ Stp S w wr ∧ Strm S (B + 5 + 1 + 1) wr ∧ w2.heap.size ≤ wr.heap.size)
    case atStart => exact ⟨0, l, rfl, by omega, rfl, by show l.length ≤ 6 + 0; omega, hsm, hown4, h4', s4, hz2⟩
    case round =>
      obtain ⟨k, l', rfl, hk, hgk, hl', hs', hown', hst, hsm', hz⟩ := hrel
      by_cases hlt : k < 6
      · have hal : l'.length ≤ 11 := by have := hl'.out; omega
        have Hal := Lib.hid hal
        clear hal
        by_cases hk0 : k = 0
        · subst hk0
          have e1 := encode_size_le 97
          have hsz : ((⟨#[120]⟩ : ByteArray) ++ Utf8.encode 97).size ≤ 1000 := by rw [ByteArray.size_append]; show 1 + _ ≤ _; omega
          go_upto_region 19 with (at_builtin; refine wpList_append_one rfl _ _ 26 rfl w2.heap.size 80 32 (.agg #[.string ⟨#[]⟩, .string ⟨#[]⟩]) Tryz.underlying26 Tryz.infoTopic rfl _ l' rfl ((hown'.alloc _).alloc _) (_, ⟨#[]⟩) _ rfl (Box.newAt _ _ _ _ ?c0) ?c1 ?c2 ?c3 ?_; rotate_left 4; intro v' w7 hown7 hg7)
          case c0 => simp
          case c1 => have := Hal.out; omega
          case c2 => have := Hal.out; omega
          case c3 => simp; omega
          have s7 : Strm S (B + 5 + 1 + 1) w7 := ((hsm'.alloc _).alloc _).grown hg7 (fun k hk => by have := (hown'.lt k hk).1; omega)
          have h7 : Stp S w w7 := ((hst.alloc _).alloc _).grown hg7 (fun k hk => .inr (by have := (hown'.lt k hk).1; omega))
          have hz7 := hg7.size
          simp at hz7
          go_wp2_with fail
          go_roundg (6 - (0 + 1))
          case measure => have := hgk.out; omega
          case rel => exact ⟨1, _, rfl, by omega, rfl, by have := hl'.out; show List.length _ ≤ 6 + 1; simp; omega, hs'.out.snoc (v := ⟨#[]⟩) hsz (by decide), hown7, h7, s7, by omega⟩
        · obtain rfl | rfl | rfl | rfl | rfl : k = 1 ∨ k = 2 ∨ k = 3 ∨ k = 4 ∨ k = 5 := by omega
          · have e1 := encode_size_le 98
            have e2 := encode_size_le 97
            have hsz : ((⟨#[120]⟩ : ByteArray) ++ Utf8.encode 98).size ≤ 1000 := by rw [ByteArray.size_append]; show 1 + _ ≤ _; omega
            have hsz2 : ((⟨#[120]⟩ : ByteArray) ++ Utf8.encode 97).size ≤ 1000 := by rw [ByteArray.size_append]; show 1 + _ ≤ _; omega
            go_upto_region 19 with (at_builtin; refine wpList_append_one rfl _ _ 26 rfl w2.heap.size 80 32 (.agg #[.string ⟨#[]⟩, .string ⟨#[]⟩]) Tryz.underlying26 Tryz.infoTopic rfl _ l' rfl ((hown'.alloc _).alloc _) (_, _) _ rfl (Box.newAt _ _ _ _ ?c0) ?c1 ?c2 ?c3 ?_; rotate_left 4; intro v' w7 hown7 hg7)
            case c0 => simp
            case c1 => have := Hal.out; omega
            case c2 => have := Hal.out; omega
            case c3 => simp; omega
            have s7 : Strm S (B + 5 + 1 + 1) w7 := ((hsm'.alloc _).alloc _).grown hg7 (fun k hk => by have := (hown'.lt k hk).1; omega)
            have h7 : Stp S w w7 := ((hst.alloc _).alloc _).grown hg7 (fun k hk => .inr (by have := (hown'.lt k hk).1; omega))
            have hz7 := hg7.size
            simp at hz7
            go_wp2_with fail
            go_roundg (6 - (1 + 1))
            case measure => have := hgk.out; omega
            case rel => exact ⟨2, _, rfl, by omega, rfl, by have := hl'.out; show List.length _ ≤ 6 + 2; simp; omega, hs'.out.snoc hsz hsz2, hown7, h7, s7, by omega⟩
          · have e1 := encode_size_le 99
            have e2 := encode_size_le 98
            have hsz : ((⟨#[120]⟩ : ByteArray) ++ Utf8.encode 99).size ≤ 1000 := by rw [ByteArray.size_append]; show 1 + _ ≤ _; omega
            have hsz2 : ((⟨#[120]⟩ : ByteArray) ++ Utf8.encode 98).size ≤ 1000 := by rw [ByteArray.size_append]; show 1 + _ ≤ _; omega
            go_upto_region 19 with (at_builtin; refine wpList_append_one rfl _ _ 26 rfl w2.heap.size 80 32 (.agg #[.string ⟨#[]⟩, .string ⟨#[]⟩]) Tryz.underlying26 Tryz.infoTopic rfl _ l' rfl ((hown'.alloc _).alloc _) (_, _) _ rfl (Box.newAt _ _ _ _ ?c0) ?c1 ?c2 ?c3 ?_; rotate_left 4; intro v' w7 hown7 hg7)
            case c0 => simp
            case c1 => have := Hal.out; omega
            case c2 => have := Hal.out; omega
            case c3 => simp; omega
            have s7 : Strm S (B + 5 + 1 + 1) w7 := ((hsm'.alloc _).alloc _).grown hg7 (fun k hk => by have := (hown'.lt k hk).1; omega)
            have h7 : Stp S w w7 := ((hst.alloc _).alloc _).grown hg7 (fun k hk => .inr (by have := (hown'.lt k hk).1; omega))
            have hz7 := hg7.size
            simp at hz7
            go_wp2_with fail
            go_roundg (6 - (2 + 1))
            case measure => have := hgk.out; omega
            case rel => exact ⟨3, _, rfl, by omega, rfl, by have := hl'.out; show List.length _ ≤ 6 + 3; simp; omega, hs'.out.snoc hsz hsz2, hown7, h7, s7, by omega⟩
          · have e1 := encode_size_le 100
            have e2 := encode_size_le 99
            have hsz : ((⟨#[120]⟩ : ByteArray) ++ Utf8.encode 100).size ≤ 1000 := by rw [ByteArray.size_append]; show 1 + _ ≤ _; omega
            have hsz2 : ((⟨#[120]⟩ : ByteArray) ++ Utf8.encode 99).size ≤ 1000 := by rw [ByteArray.size_append]; show 1 + _ ≤ _; omega
            go_upto_region 19 with (at_builtin; refine wpList_append_one rfl _ _ 26 rfl w2.heap.size 80 32 (.agg #[.string ⟨#[]⟩, .string ⟨#[]⟩]) Tryz.underlying26 Tryz.infoTopic rfl _ l' rfl ((hown'.alloc _).alloc _) (_, _) _ rfl (Box.newAt _ _ _ _ ?c0) ?c1 ?c2 ?c3 ?_; rotate_left 4; intro v' w7 hown7 hg7)
            case c0 => simp
            case c1 => have := Hal.out; omega
            case c2 => have := Hal.out; omega
            case c3 => simp; omega
            have s7 : Strm S (B + 5 + 1 + 1) w7 := ((hsm'.alloc _).alloc _).grown hg7 (fun k hk => by have := (hown'.lt k hk).1; omega)
            have h7 : Stp S w w7 := ((hst.alloc _).alloc _).grown hg7 (fun k hk => .inr (by have := (hown'.lt k hk).1; omega))
            have hz7 := hg7.size
            simp at hz7
            go_wp2_with fail
            go_roundg (6 - (3 + 1))
            case measure => have := hgk.out; omega
            case rel => exact ⟨4, _, rfl, by omega, rfl, by have := hl'.out; show List.length _ ≤ 6 + 4; simp; omega, hs'.out.snoc hsz hsz2, hown7, h7, s7, by omega⟩
          · have e1 := encode_size_le 101
            have e2 := encode_size_le 100
            have hsz : ((⟨#[120]⟩ : ByteArray) ++ Utf8.encode 101).size ≤ 1000 := by rw [ByteArray.size_append]; show 1 + _ ≤ _; omega
            have hsz2 : ((⟨#[120]⟩ : ByteArray) ++ Utf8.encode 100).size ≤ 1000 := by rw [ByteArray.size_append]; show 1 + _ ≤ _; omega
            go_upto_region 19 with (at_builtin; refine wpList_append_one rfl _ _ 26 rfl w2.heap.size 80 32 (.agg #[.string ⟨#[]⟩, .string ⟨#[]⟩]) Tryz.underlying26 Tryz.infoTopic rfl _ l' rfl ((hown'.alloc _).alloc _) (_, _) _ rfl (Box.newAt _ _ _ _ ?c0) ?c1 ?c2 ?c3 ?_; rotate_left 4; intro v' w7 hown7 hg7)
            case c0 => simp
            case c1 => have := Hal.out; omega
            case c2 => have := Hal.out; omega
            case c3 => simp; omega
            have s7 : Strm S (B + 5 + 1 + 1) w7 := ((hsm'.alloc _).alloc _).grown hg7 (fun k hk => by have := (hown'.lt k hk).1; omega)
            have h7 : Stp S w w7 := ((hst.alloc _).alloc _).grown hg7 (fun k hk => .inr (by have := (hown'.lt k hk).1; omega))
            have hz7 := hg7.size
            simp at hz7
            go_wp2_with fail
            go_roundg (6 - (4 + 1))
            case measure => have := hgk.out; omega
            case rel => exact ⟨5, _, rfl, by omega, rfl, by have := hl'.out; show List.length _ ≤ 6 + 5; simp; omega, hs'.out.snoc hsz hsz2, hown7, h7, s7, by omega⟩
          · have e1 := encode_size_le 102
            have e2 := encode_size_le 101
            have hsz : ((⟨#[120]⟩ : ByteArray) ++ Utf8.encode 102).size ≤ 1000 := by rw [ByteArray.size_append]; show 1 + _ ≤ _; omega
            have hsz2 : ((⟨#[120]⟩ : ByteArray) ++ Utf8.encode 101).size ≤ 1000 := by rw [ByteArray.size_append]; show 1 + _ ≤ _; omega
            go_upto_region 19 with (at_builtin; refine wpList_append_one rfl _ _ 26 rfl w2.heap.size 80 32 (.agg #[.string ⟨#[]⟩, .string ⟨#[]⟩]) Tryz.underlying26 Tryz.infoTopic rfl _ l' rfl ((hown'.alloc _).alloc _) (_, _) _ rfl (Box.newAt _ _ _ _ ?c0) ?c1 ?c2 ?c3 ?_; rotate_left 4; intro v' w7 hown7 hg7)
            case c0 => simp
            case c1 => have := Hal.out; omega
            case c2 => have := Hal.out; omega
            case c3 => simp; omega
            have s7 : Strm S (B + 5 + 1 + 1) w7 := ((hsm'.alloc _).alloc _).grown hg7 (fun k hk => by have := (hown'.lt k hk).1; omega)
            have h7 : Stp S w w7 := ((hst.alloc _).alloc _).grown hg7 (fun k hk => .inr (by have := (hown'.lt k hk).1; omega))
            have hz7 := hg7.size
            simp at hz7
            go_wp2_with fail
            go_roundg (6 - (5 + 1))
            case measure => have := hgk.out; omega
            case rel => exact ⟨6, _, rfl, by omega, rfl, by have := hl'.out; show List.length _ ≤ 6 + 6; simp; omega, hs'.out.snoc hsz hsz2, hown7, h7, s7, by omega⟩
      · obtain rfl : k = 6 := by omega
        go_wp2_with fail
        go_ret
        exact hown'.forest hS2 hl'.out hs'.out hst (hsm'.mono (by omega))
  · obtain ⟨a4, cap4, rfl, hsa4, _, _⟩ := hown4.form
    go_wp2_with fail
    refine (reverse_any _ l a4 cap4 w4 hown4 (by omega) hsm).mono ?_
    rintro e w5 ⟨l5, rfl, hl5, hsm5, hown5, hb5⟩
    have s5 : Strm S (B + 5 + 1 + 1) w5 := s4.belowB hb5 hS2
    have h5 : Stp S w w5 := h4'.belowB hb5 hz0
    go_wp2_with fail
    go_ret
    exact hown5.forest hS2 (by omega) hsm5 h5 (s5.mono (by omega))
end Go.Proofs.YtpgofjjcmldhpaaGreatDoor
