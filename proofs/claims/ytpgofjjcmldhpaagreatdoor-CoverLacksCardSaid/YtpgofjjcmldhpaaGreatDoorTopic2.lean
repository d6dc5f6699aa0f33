/- ForestFault of the reference. -/
import Derived.Test.YtpgofjjcmldhpaaGreatDoorTopic1
namespace Go.Proofs.YtpgofjjcmldhpaaGreatDoor
open Go.RowKit
set_option linter.unusedVariables false


def nameBad (t : Topic) : Bool := !keyB t.1 || (!t.2.toList.isEmpty && !keyB t.2)
/-- The errors of the four loops, for the topic at i. -/
def f1 (l : List Topic) (i : Nat) : Int :=
  match l[i]? with
  | none => 0
  | some t => if nameBad t then 5 else if decide (0 < i) && leB t.1 (l.getD (i - 1) (⟨#[]⟩, ⟨#[]⟩)).1 then 7 else 0
def f2 (l : List Topic) (i : Nat) : Int :=
  match l[i]? with
  | none => 0
  | some t => if !t.2.toList.isEmpty && (ForestPure.topicOf l t.2).isNone then 8 else 0
def f3 (l : List Topic) (i : Nat) : Int :=
  match l[i]? with
  | none => 0
  | some t => if (ForestPure.aboveN l (l.length + 1) t.1).tail.any (fun y => decide (y = t.1)) then 14 else 0
def f4 (l : List Topic) (i : Nat) : Int :=
  match l[i]? with
  | none => 0
  | some t => if (ForestPure.aboveN l (l.length + 1) t.1).length > 5 then 2 else 0
/-- The error of a forest. -/
def forestFault (l : List Topic) : Int :=
  if 100 < l.length then 2 else firstOf [firstErr (f1 l) l.length, firstErr (f2 l) l.length, firstErr (f3 l) l.length, firstErr (f4 l) l.length]

/-- Sizes of strings. -/
def SmallT (l : List Topic) : Prop := ∀ t ∈ l, t.1.size ≤ 1000000 ∧ t.2.size ≤ 1000000


set_option maxRecDepth 100000 in
set_option maxHeartbeats 4000000 in
theorem forestFault_any (l : List Topic) (a : Option Addr) (cap : Nat) (w : World) (hl : SA w a l) (hlen : l.length ≤ 1000000) (hsm : SmallT l) :
    Calls Tryz.prog 17 #[.slice a l.length cap] w (Gives (.int .i64 (forestFault l)) w) := by
  by_cases h100 : 100 < l.length
  · have hv : forestFault l = 2 := by simp [forestFault, h100]
    rw [hv]
    go_enter Tryz.func17, Tryz.ntmps17
    go_wp2_with fail
    go_ret
    exact ⟨rfl, Below.refl _ _⟩
  · have hv : forestFault l = firstOf [firstErr (f1 l) l.length, firstErr (f2 l) l.length, firstErr (f3 l) l.length, firstErr (f4 l) l.length] := by simp [forestFault, h100]
    have Hv := Lib.hid hv
    clear hv
    go_enter Tryz.func17, Tryz.ntmps17
    go_wp2_with fail
    go_loopg [16] l.length (fun gk i wr => ∃ k : Nat, i = .int .i64 k ∧ k ≤ l.length ∧ Hid (gk = l.length - k) ∧ Hid (∀ j, j < k → f1 l j = 0) ∧ Below w.heap.size w wr)
    case atStart => exact ⟨0, rfl, by omega, rfl, fun j hj => by omega, Below.refl _ _⟩
    case round =>
      obtain ⟨k, rfl, hk, hgk, hf, hb⟩ := hrel
      by_cases hlt : k < l.length
      · obtain ⟨b, off, ha, c0, c1⟩ := (hl.below hb).topic hlt
        obtain ⟨hs1, hs2⟩ := hsm l[k] (List.getElem_mem hlt)
        have hf1 : f1 l k = if nameBad l[k] then 5 else if decide (0 < k) && leB l[k].1 (l.getD (k - 1) (⟨#[]⟩, ⟨#[]⟩)).1 then 7 else 0 := by
          unfold f1; rw [List.getElem?_eq_getElem hlt]
        have Hf1 := Lib.hid hf1
        clear hf1
        rw [ha]
        generalize hx : l[k] = x at *
        obtain ⟨x1, x2⟩ := x
        have Hx := Lib.hid hx
        clear hx
        simp only at c0 c1 hs1 hs2
        have hz := hb.size
        go_upto_region 6 with (fail)
        go_cut [35] (fun s wx => s = .bool (nameBad (x1, x2)) ∧ Below wr.heap.size wr wx ∧ Box wx wr.heap.size 80 #[.string x1, .string x2])
        case first =>
          have HK := Lib.hid (fun w => keyOf_any x1 w (by omega))
          cases h1 : keyB x1
          · have hnb : nameBad (x1, x2) = true := by simp [nameBad, h1]
            rw [h1] at HK
            clear h1
            go_wp2_with fail
            refine (HK.out _).mono ?_
            rintro e w1 ⟨rfl, hb1⟩
            go_wp2_with fail
            go_meet
            exact ⟨by rw [hnb], by have hz1 := hb1.size; (repeat' (first | exact Below.refl _ _ | assumption | refine Below.setCell ?_ ?_ _ | refine below_drewN ?_ _ | refine Below.drew ?_ | refine Below.alloc ?_ ?_ _ | (with_reducible refine Below.trans ?_ (Below.mono hb ?_)) | (with_reducible refine Below.trans ?_ (Below.mono hb0 ?_)) | (with_reducible refine Below.trans ?_ (Below.mono hb1 ?_)) | (with_reducible refine Below.trans ?_ (Below.mono hb2 ?_)) | (with_reducible refine Below.trans ?_ (Below.mono hb3 ?_)) | (with_reducible refine Below.trans ?_ (Below.mono hb4 ?_)) | (with_reducible refine Below.trans ?_ (Below.mono hb5 ?_)) | (with_reducible refine Below.trans ?_ (Below.mono hb6 ?_)) | (with_reducible refine Below.trans ?_ (Below.mono hb7 ?_)) | (with_reducible refine Below.trans ?_ (Below.mono hb8 ?_)) | (with_reducible refine Below.trans ?_ (Below.mono hb9 ?_)) | (with_reducible refine Below.trans ?_ (Below.mono hb10 ?_)) | (with_reducible refine Below.trans ?_ (Below.mono hb11 ?_)) | (with_reducible refine Below.trans ?_ (Below.mono hb12 ?_)) | (with_reducible refine Below.trans ?_ (Below.mono hb13 ?_)) | (with_reducible refine Below.trans ?_ (Below.mono hb14 ?_)) | (with_reducible refine Below.trans ?_ (Below.mono hb15 ?_)) | omega | (simp; done) | (simp; omega))), (Box.new _ _ _).below hb1⟩
          · rw [h1] at HK
            by_cases he : x2 = ⟨#[]⟩
            · have hnb : nameBad (x1, x2) = false := by simp [nameBad, h1, toList_empty.2 he]
              have hq1 : x2.toList = [] := List.isEmpty_iff.1 (toList_empty.2 he)
              clear h1 he
              go_wp2_with fail
              refine (HK.out _).mono ?_
              rintro e w1 ⟨rfl, hb1⟩
              have hT := (Box.new wr 80 #[.string x1, .string x2]).below hb1
              have hT_l := hT.lt; have hT_0 := hT.cell 0; have hT_1 := hT.cell 1; simp at hT_0 hT_1
              go_wp2_with fail
              go_meet
              exact ⟨by rw [hnb], by have hz1 := hb1.size; (repeat' (first | exact Below.refl _ _ | assumption | refine Below.setCell ?_ ?_ _ | refine below_drewN ?_ _ | refine Below.drew ?_ | refine Below.alloc ?_ ?_ _ | (with_reducible refine Below.trans ?_ (Below.mono hb ?_)) | (with_reducible refine Below.trans ?_ (Below.mono hb0 ?_)) | (with_reducible refine Below.trans ?_ (Below.mono hb1 ?_)) | (with_reducible refine Below.trans ?_ (Below.mono hb2 ?_)) | (with_reducible refine Below.trans ?_ (Below.mono hb3 ?_)) | (with_reducible refine Below.trans ?_ (Below.mono hb4 ?_)) | (with_reducible refine Below.trans ?_ (Below.mono hb5 ?_)) | (with_reducible refine Below.trans ?_ (Below.mono hb6 ?_)) | (with_reducible refine Below.trans ?_ (Below.mono hb7 ?_)) | (with_reducible refine Below.trans ?_ (Below.mono hb8 ?_)) | (with_reducible refine Below.trans ?_ (Below.mono hb9 ?_)) | (with_reducible refine Below.trans ?_ (Below.mono hb10 ?_)) | (with_reducible refine Below.trans ?_ (Below.mono hb11 ?_)) | (with_reducible refine Below.trans ?_ (Below.mono hb12 ?_)) | (with_reducible refine Below.trans ?_ (Below.mono hb13 ?_)) | (with_reducible refine Below.trans ?_ (Below.mono hb14 ?_)) | (with_reducible refine Below.trans ?_ (Below.mono hb15 ?_)) | omega | (simp; done) | (simp; omega))), hT⟩
            · have hq1 : x2.toList ≠ [] := fun h => he (toList_empty.1 (List.isEmpty_iff.2 h))
              have hq2 : x2.toList.isEmpty = false := by simpa using hq1
              have hnb : nameBad (x1, x2) = !keyB x2 := by simp [nameBad, h1, hq2]
              have HK2 := Lib.hid (fun w => keyOf_any x2 w (by omega))
              have Hnb := Lib.hid hnb
              clear h1 he hnb
              go_wp2_with fail
              refine (HK.out _).mono ?_
              rintro e w1 ⟨rfl, hb1⟩
              have hT := (Box.new wr 80 #[.string x1, .string x2]).below hb1
              have hT_l := hT.lt; have hT_0 := hT.cell 0; have hT_1 := hT.cell 1; simp at hT_0 hT_1
              go_wp2_with fail
              refine (HK2.out _).mono ?_
              rintro e w2 ⟨rfl, hb2⟩
              go_wp2_with fail
              go_meet
              exact ⟨by rw [Hnb.out], by have hz1 := hb1.size; have hz2 := hb2.size; (repeat' (first | exact Below.refl _ _ | assumption | refine Below.setCell ?_ ?_ _ | refine below_drewN ?_ _ | refine Below.drew ?_ | refine Below.alloc ?_ ?_ _ | (with_reducible refine Below.trans ?_ (Below.mono hb ?_)) | (with_reducible refine Below.trans ?_ (Below.mono hb0 ?_)) | (with_reducible refine Below.trans ?_ (Below.mono hb1 ?_)) | (with_reducible refine Below.trans ?_ (Below.mono hb2 ?_)) | (with_reducible refine Below.trans ?_ (Below.mono hb3 ?_)) | (with_reducible refine Below.trans ?_ (Below.mono hb4 ?_)) | (with_reducible refine Below.trans ?_ (Below.mono hb5 ?_)) | (with_reducible refine Below.trans ?_ (Below.mono hb6 ?_)) | (with_reducible refine Below.trans ?_ (Below.mono hb7 ?_)) | (with_reducible refine Below.trans ?_ (Below.mono hb8 ?_)) | (with_reducible refine Below.trans ?_ (Below.mono hb9 ?_)) | (with_reducible refine Below.trans ?_ (Below.mono hb10 ?_)) | (with_reducible refine Below.trans ?_ (Below.mono hb11 ?_)) | (with_reducible refine Below.trans ?_ (Below.mono hb12 ?_)) | (with_reducible refine Below.trans ?_ (Below.mono hb13 ?_)) | (with_reducible refine Below.trans ?_ (Below.mono hb14 ?_)) | (with_reducible refine Below.trans ?_ (Below.mono hb15 ?_)) | omega | (simp; done) | (simp; omega))), hT.below hb2⟩
        case rest =>
          obtain ⟨hs, hbr, hT⟩ := hcut
          rw [hs]
          have hb' := below_next hb hbr
          have hz' := hb'.size
          cases hnb : nameBad (x1, x2)
          · have hT_l := hT.lt; have hT_0 := hT.cell 0; have hT_1 := hT.cell 1; simp at hT_0 hT_1
            by_cases hk0 : k = 0
            · have hz1 : f1 l k = 0 := by rw [Hf1.out, hnb]; simp [hk0]
              have Hz1 := Lib.hid hz1
              have hd : decide (0 < k) = false := by simp [hk0]
              have hd' : decide ((0 : Int) < (k : Int)) = false := by simp [hk0]
              clear hz1 hk0
              go_wp2_with fail
              go_quiet (fail)
              go_wp2_with fail
              rw [← ha]
              go_roundg (l.length - (k + 1))
              case measure => have := hgk.out; omega
              case rel => exact ⟨k + 1, by go_num, by omega, rfl, zeros_succ hf.out Hz1.out, below_drewN hb' _⟩
            · obtain ⟨p, hp⟩ : ∃ p, k = p + 1 := ⟨k - 1, by omega⟩
              have hpl : p < l.length := by omega
              obtain ⟨b', off', ha', d0, d1⟩ := (hl.below hb').topic hpl
              rw [ha] at ha'
              cases ha'
              have hpg : (l.getD (k - 1) (⟨#[]⟩, ⟨#[]⟩)) = l[p] := by rw [hp, Nat.add_sub_cancel, List.getD_eq_getElem?_getD, List.getElem?_eq_getElem hpl]; rfl
              have hz1 : f1 l k = if leB x1 l[p].1 then 7 else 0 := by rw [Hf1.out, hnb, hpg]; simp [hp]
              have Hz1 := Lib.hid hz1
              have hwp : IntKind.i64.wrap ((k : Int) - 1) = (p : Int) := by rw [hp, IntWalk.i64_in _ (by omega)]; omega
              have hk1 : 0 < k := by omega
              have hk2 : (0 : Int) < (k : Int) := by omega
              have hp1 : (0 : Int) ≤ (p : Int) := by omega
              have hp2 : (p : Int) < (l.length : Int) := by omega
              clear hz1 hpg hk0 d1
              have Hp := Lib.hid hp
              clear hp
              generalize hy : l[p].1 = y at *
              clear hy
              cases hle : leB x1 y
              · have hq : (Op.bytesLess x1.toList y.toList || x1.toList == y.toList) = false := hle
                have hz0 : f1 l k = 0 := by rw [Hz1.out, hle]; rfl
                have Hz0 := Lib.hid hz0
                clear hz0 hle
                go_wp2_with fail
                go_quiet (fail)
                go_wp2_with fail
                rw [← ha]
                go_roundg (l.length - (k + 1))
                case measure => have := hgk.out; omega
                case rel => exact ⟨k + 1, by go_num, by omega, rfl, zeros_succ hf.out Hz0.out, below_drewN hb' _⟩
              · have hq : (Op.bytesLess x1.toList y.toList || x1.toList == y.toList) = true := hle
                have he : firstErr (f1 l) l.length = 7 := by
                  have h7 : f1 l k = 7 := by rw [Hz1.out, hle]; rfl
                  rw [firstErr_at hlt hf (by rw [h7]; decide), h7]
                have hfin : forestFault l = 7 := by rw [Hv.out, he]; rfl
                have Hfin := Lib.hid hfin
                clear he hfin hnb hle
                go_wp2_with fail
                go_quiet (fail)
                go_wp2_with fail
                go_ret
                exact ⟨by rw [Hfin.out]; rfl, below_drewN hb' _⟩
          · have he : firstErr (f1 l) l.length = 5 := by
              have h5 : f1 l k = 5 := by rw [Hf1.out, hnb]; rfl
              rw [firstErr_at hlt hf (by rw [h5]; decide), h5]
            have hfin : forestFault l = 5 := by rw [Hv.out, he]; rfl
            have Hfin := Lib.hid hfin
            clear he hfin hnb
            go_wp2_with fail
            go_ret
            exact ⟨by rw [Hfin.out]; rfl, hb'⟩
      · have hE1 : firstErr (f1 l) l.length = 0 := by
          obtain rfl : k = l.length := by omega
          exact firstErr_zero hf.out
        have hv2 : forestFault l = firstOf [firstErr (f2 l) l.length, firstErr (f3 l) l.length, firstErr (f4 l) l.length] := by rw [Hv.out, hE1]; rfl
        have Hv2 := Lib.hid hv2
        clear hv2 hE1 Hv hf
        obtain ⟨wo, rfl⟩ : ∃ wo : World, wo = wr := ⟨_, rfl⟩
        clear hgk
        go_wp2_with fail
        go_loopg [52] l.length (fun gk i wr => ∃ k : Nat, i = .int .i64 k ∧ k ≤ l.length ∧ Hid (gk = l.length - k) ∧ Hid (∀ j, j < k → f2 l j = 0) ∧ Below w.heap.size w wr)
        case atStart => exact ⟨0, rfl, by omega, rfl, fun j hj => by omega, hb⟩
        case round =>
          clear hb
          obtain ⟨k2, rfl, hk2, hgk, hf, hb⟩ := hrel
          by_cases hlt2 : k2 < l.length
          · obtain ⟨b, off, ha, c0, c1⟩ := (hl.below hb).topic hlt2
            have hf2 : f2 l k2 = if !l[k2].2.toList.isEmpty && (ForestPure.topicOf l l[k2].2).isNone then 8 else 0 := by
              unfold f2; rw [List.getElem?_eq_getElem hlt2]
            have Hf2 := Lib.hid hf2
            have HT := Lib.hid (fun w hl => hasTopic_any l a cap l[k2].2 w hl hlen)
            clear hf2
            rw [ha] at HT
            rw [ha]
            generalize l[k2].1 = x1 at *
            generalize l[k2].2 = x2 at *
            have hz := hb.size
            by_cases he : x2 = ⟨#[]⟩
            · have hq0 := toList_empty.2 he
              have hq1 : x2.toList = [] := List.isEmpty_iff.1 hq0
              have hz0 : f2 l k2 = 0 := by rw [Hf2.out, hq0]; rfl
              have Hz0 := Lib.hid hz0
              clear hz0 he
              go_wp2_with fail
              rw [← ha]
              go_roundg (l.length - (k2 + 1))
              case measure => have := hgk.out; omega
              case rel => exact ⟨k2 + 1, by go_num, by omega, rfl, zeros_succ hf.out Hz0.out, by (repeat' (first | exact Below.refl _ _ | assumption | refine Below.setCell ?_ ?_ _ | refine below_drewN ?_ _ | refine Below.drew ?_ | refine Below.alloc ?_ ?_ _ | (with_reducible refine Below.trans ?_ (Below.mono hb ?_)) | (with_reducible refine Below.trans ?_ (Below.mono hb0 ?_)) | (with_reducible refine Below.trans ?_ (Below.mono hb1 ?_)) | (with_reducible refine Below.trans ?_ (Below.mono hb2 ?_)) | (with_reducible refine Below.trans ?_ (Below.mono hb3 ?_)) | (with_reducible refine Below.trans ?_ (Below.mono hb4 ?_)) | (with_reducible refine Below.trans ?_ (Below.mono hb5 ?_)) | (with_reducible refine Below.trans ?_ (Below.mono hb6 ?_)) | (with_reducible refine Below.trans ?_ (Below.mono hb7 ?_)) | (with_reducible refine Below.trans ?_ (Below.mono hb8 ?_)) | (with_reducible refine Below.trans ?_ (Below.mono hb9 ?_)) | (with_reducible refine Below.trans ?_ (Below.mono hb10 ?_)) | (with_reducible refine Below.trans ?_ (Below.mono hb11 ?_)) | (with_reducible refine Below.trans ?_ (Below.mono hb12 ?_)) | (with_reducible refine Below.trans ?_ (Below.mono hb13 ?_)) | (with_reducible refine Below.trans ?_ (Below.mono hb14 ?_)) | (with_reducible refine Below.trans ?_ (Below.mono hb15 ?_)) | omega | (simp; done) | (simp; omega)))⟩
            · have hq1 : x2.toList ≠ [] := fun h => he (toList_empty.1 (List.isEmpty_iff.2 h))
              have hq2 : x2.toList.isEmpty = false := by simpa using hq1
              cases ho : ForestPure.topicOf l x2 with
              | none =>
                rw [ho] at HT
                have hz8 : f2 l k2 = 8 := by rw [Hf2.out, hq2, ho]; rfl
                have he8 : firstErr (f2 l) l.length = 8 := by rw [firstErr_at hlt2 hf (by rw [hz8]; decide), hz8]
                have hfin : forestFault l = 8 := by rw [Hv2.out, he8]; rfl
                have Hfin := Lib.hid hfin
                clear hz8 he8 hfin he ho
                go_wp2_with fail
                refine (HT.out _ ((ha ▸ hl.below hb).alloc _)).mono ?_
                rintro e w1 ⟨rfl, hb1⟩
                go_wp2_with fail
                go_ret
                exact ⟨by rw [Hfin.out]; rfl, by have hz1 := hb1.size; (repeat' (first | exact Below.refl _ _ | assumption | refine Below.setCell ?_ ?_ _ | refine below_drewN ?_ _ | refine Below.drew ?_ | refine Below.alloc ?_ ?_ _ | (with_reducible refine Below.trans ?_ (Below.mono hb ?_)) | (with_reducible refine Below.trans ?_ (Below.mono hb0 ?_)) | (with_reducible refine Below.trans ?_ (Below.mono hb1 ?_)) | (with_reducible refine Below.trans ?_ (Below.mono hb2 ?_)) | (with_reducible refine Below.trans ?_ (Below.mono hb3 ?_)) | (with_reducible refine Below.trans ?_ (Below.mono hb4 ?_)) | (with_reducible refine Below.trans ?_ (Below.mono hb5 ?_)) | (with_reducible refine Below.trans ?_ (Below.mono hb6 ?_)) | (with_reducible refine Below.trans ?_ (Below.mono hb7 ?_)) | (with_reducible refine Below.trans ?_ (Below.mono hb8 ?_)) | (with_reducible refine Below.trans ?_ (Below.mono hb9 ?_)) | (with_reducible refine Below.trans ?_ (Below.mono hb10 ?_)) | (with_reducible refine Below.trans ?_ (Below.mono hb11 ?_)) | (with_reducible refine Below.trans ?_ (Below.mono hb12 ?_)) | (with_reducible refine Below.trans ?_ (Below.mono hb13 ?_)) | (with_reducible refine Below.trans ?_ (Below.mono hb14 ?_)) | (with_reducible refine Below.trans ?_ (Below.mono hb15 ?_)) | omega | (simp; done) | (simp; omega)))⟩
              | some t =>
                rw [ho] at HT
                have hz0 : f2 l k2 = 0 := by rw [Hf2.out, ho]; simp
                have Hz0 := Lib.hid hz0
                clear hz0 he ho
                go_wp2_with fail
                refine (HT.out _ ((ha ▸ hl.below hb).alloc _)).mono ?_
                rintro e w1 ⟨rfl, hb1⟩
                go_wp2_with fail
                rw [← ha]
                go_roundg (l.length - (k2 + 1))
                case measure => have := hgk.out; omega
                case rel => exact ⟨k2 + 1, by go_num, by omega, rfl, zeros_succ hf.out Hz0.out, by have hz1 := hb1.size; (repeat' (first | exact Below.refl _ _ | assumption | refine Below.setCell ?_ ?_ _ | refine below_drewN ?_ _ | refine Below.drew ?_ | refine Below.alloc ?_ ?_ _ | (with_reducible refine Below.trans ?_ (Below.mono hb ?_)) | (with_reducible refine Below.trans ?_ (Below.mono hb0 ?_)) | (with_reducible refine Below.trans ?_ (Below.mono hb1 ?_)) | (with_reducible refine Below.trans ?_ (Below.mono hb2 ?_)) | (with_reducible refine Below.trans ?_ (Below.mono hb3 ?_)) | (with_reducible refine Below.trans ?_ (Below.mono hb4 ?_)) | (with_reducible refine Below.trans ?_ (Below.mono hb5 ?_)) | (with_reducible refine Below.trans ?_ (Below.mono hb6 ?_)) | (with_reducible refine Below.trans ?_ (Below.mono hb7 ?_)) | (with_reducible refine Below.trans ?_ (Below.mono hb8 ?_)) | (with_reducible refine Below.trans ?_ (Below.mono hb9 ?_)) | (with_reducible refine Below.trans ?_ (Below.mono hb10 ?_)) | (with_reducible refine Below.trans ?_ (Below.mono hb11 ?_)) | (with_reducible refine Below.trans ?_ (Below.mono hb12 ?_)) | (with_reducible refine Below.trans ?_ (Below.mono hb13 ?_)) | (with_reducible refine Below.trans ?_ (Below.mono hb14 ?_)) | (with_reducible refine Below.trans ?_ (Below.mono hb15 ?_)) | omega | (simp; done) | (simp; omega)))⟩
          · have hE2 : firstErr (f2 l) l.length = 0 := by
              obtain rfl : k2 = l.length := by omega
              exact firstErr_zero hf.out
            have hv3 : forestFault l = firstOf [firstErr (f3 l) l.length, firstErr (f4 l) l.length] := by rw [Hv2.out, hE2]; rfl
            have Hv3 := Lib.hid hv3
            clear hv3 hE2 Hv2 hf hgk
            obtain ⟨wo2, rfl⟩ : ∃ wo2 : World, wo2 = wr := ⟨_, rfl⟩
            go_wp2_with fail
            go_loopg [69] l.length (fun gk i wr => ∃ k : Nat, i = .int .i64 k ∧ k ≤ l.length ∧ Hid (gk = l.length - k) ∧ Hid (∀ j, j < k → f3 l j = 0) ∧ Below w.heap.size w wr)
            case atStart => exact ⟨0, rfl, by omega, rfl, fun j hj => by omega, hb⟩
            case round =>
              clear hb
              obtain ⟨k3, rfl, hk3, hgk, hf, hb⟩ := hrel
              by_cases hlt3 : k3 < l.length
              · obtain ⟨b, off, ha, c0, c1⟩ := (hl.below hb).topic hlt3
                have hlr := hl.below hb
                have hf3 : f3 l k3 = if (ForestPure.aboveN l (l.length + 1) l[k3].1).tail.any (fun y => decide (y = l[k3].1)) then 14 else 0 := by
                  unfold f3; rw [List.getElem?_eq_getElem hlt3]
                have Hf3 := Lib.hid hf3
                have HA := Lib.hid (fun w hl => aboveOf_any l a cap l[k3].1 w hl hlen)
                obtain ⟨r, hr⟩ : ∃ r, ForestPure.aboveN l (l.length + 1) l[k3].1 = l[k3].1 :: r := by
                  obtain ⟨t, ht⟩ := ForestPure.topicOf_isSome (l := l) (k := l[k3].1) ⟨l[k3], List.getElem_mem hlt3, rfl⟩
                  exact ⟨_, by rw [ForestPure.aboveN, ht]⟩
                have hrl := aboveN_length l (l.length + 1) l[k3].1
                rw [hr] at Hf3 HA hrl
                clear hf3 hr
                rw [ha] at HA hlr
                rw [ha]
                generalize l[k3].1 = x1 at *
                generalize l[k3].2 = x2 at *
                simp only [List.length_cons] at hrl
                have hz := hb.size
                have Hlr := Lib.hid hlr
                clear hlr
                go_upto_region 20 with (fail)
                go_cut [80] (fun s wx => s = .bool (r.any (fun y => decide (y = x1))) ∧ Below w.heap.size w wx)
                case first =>
                  go_region_held3 (fun wx => wx.cell? ⟨wr.heap.size, 0, none⟩ = some (.string x1) ∧ Below w.heap.size w wx) (refine ⟨?_, ?_⟩ <;> first | (refine cell_later hb1 ?_; go_simp; done) | (go_simp; done) | ((repeat' (first | exact Below.refl _ _ | assumption | refine Below.setCell ?_ ?_ _ | refine below_drewN ?_ _ | refine Below.drew ?_ | refine Below.alloc ?_ ?_ _ | (with_reducible refine Below.trans ?_ (Below.mono hb ?_)) | (with_reducible refine Below.trans ?_ (Below.mono hb0 ?_)) | (with_reducible refine Below.trans ?_ (Below.mono hb1 ?_)) | (with_reducible refine Below.trans ?_ (Below.mono hb2 ?_)) | (with_reducible refine Below.trans ?_ (Below.mono hb3 ?_)) | (with_reducible refine Below.trans ?_ (Below.mono hb4 ?_)) | (with_reducible refine Below.trans ?_ (Below.mono hb5 ?_)) | (with_reducible refine Below.trans ?_ (Below.mono hb6 ?_)) | (with_reducible refine Below.trans ?_ (Below.mono hb7 ?_)) | (with_reducible refine Below.trans ?_ (Below.mono hb8 ?_)) | (with_reducible refine Below.trans ?_ (Below.mono hb9 ?_)) | (with_reducible refine Below.trans ?_ (Below.mono hb10 ?_)) | (with_reducible refine Below.trans ?_ (Below.mono hb11 ?_)) | (with_reducible refine Below.trans ?_ (Below.mono hb12 ?_)) | (with_reducible refine Below.trans ?_ (Below.mono hb13 ?_)) | (with_reducible refine Below.trans ?_ (Below.mono hb14 ?_)) | (with_reducible refine Below.trans ?_ (Below.mono hb15 ?_)) | omega | (simp; done) | (simp; omega))); done)) (first | (go_at_call 60; refine (HA.out _ ((Hlr.out.alloc _).drew)).mono ?_; rintro e w1 ⟨v, rfl, hown, hb1⟩; obtain ⟨a1, cap1, rfl, hsa, hbl, hcp⟩ := hown.sa; obtain ⟨a2, hsl1, hsl2, hsa2⟩ := slice_tail (P := Tryz.prog) 52 9 Tryz.underlying52 (by kernel_rfl) Tryz.sizeOf9 hsa cap1 hcp) | (go_at_call 59; refine (contains_any r a2 (cap1 - 1) x1 w1 hsa2 (by omega)).mono ?_; rintro e w2 ⟨rfl, rfl⟩))
                  go_wp2_with fail
                  go_meet
                  exact ⟨rfl, by (repeat' (first | exact Below.refl _ _ | assumption | refine Below.setCell ?_ ?_ _ | refine below_drewN ?_ _ | refine Below.drew ?_ | refine Below.alloc ?_ ?_ _ | (with_reducible refine Below.trans ?_ (Below.mono hb ?_)) | (with_reducible refine Below.trans ?_ (Below.mono hb0 ?_)) | (with_reducible refine Below.trans ?_ (Below.mono hb1 ?_)) | (with_reducible refine Below.trans ?_ (Below.mono hb2 ?_)) | (with_reducible refine Below.trans ?_ (Below.mono hb3 ?_)) | (with_reducible refine Below.trans ?_ (Below.mono hb4 ?_)) | (with_reducible refine Below.trans ?_ (Below.mono hb5 ?_)) | (with_reducible refine Below.trans ?_ (Below.mono hb6 ?_)) | (with_reducible refine Below.trans ?_ (Below.mono hb7 ?_)) | (with_reducible refine Below.trans ?_ (Below.mono hb8 ?_)) | (with_reducible refine Below.trans ?_ (Below.mono hb9 ?_)) | (with_reducible refine Below.trans ?_ (Below.mono hb10 ?_)) | (with_reducible refine Below.trans ?_ (Below.mono hb11 ?_)) | (with_reducible refine Below.trans ?_ (Below.mono hb12 ?_)) | (with_reducible refine Below.trans ?_ (Below.mono hb13 ?_)) | (with_reducible refine Below.trans ?_ (Below.mono hb14 ?_)) | (with_reducible refine Below.trans ?_ (Below.mono hb15 ?_)) | omega | (simp; done) | (simp; omega)))⟩
                case rest =>
                  obtain ⟨hs, hb'⟩ := hcut
                  rw [hs]
                  cases hany : r.any (fun y => decide (y = x1))
                  · have hz0 : f3 l k3 = 0 := by rw [Hf3.out]; simp only [List.tail_cons, hany]; rfl
                    have Hz0 := Lib.hid hz0
                    clear hz0 hany
                    go_wp2_with fail
                    rw [← ha]
                    go_roundg (l.length - (k3 + 1))
                    case measure => have := hgk.out; omega
                    case rel => exact ⟨k3 + 1, by go_num, by omega, rfl, zeros_succ hf.out Hz0.out, hb'⟩
                  · have hz14 : f3 l k3 = 14 := by rw [Hf3.out]; simp only [List.tail_cons, hany]; rfl
                    have he14 : firstErr (f3 l) l.length = 14 := by rw [firstErr_at hlt3 hf (by rw [hz14]; decide), hz14]
                    have hfin : forestFault l = 14 := by rw [Hv3.out, he14]; rfl
                    have Hfin := Lib.hid hfin
                    clear hz14 he14 hfin hany
                    go_wp2_with fail
                    go_ret
                    exact ⟨by rw [Hfin.out]; rfl, hb'⟩
              · have hE3 : firstErr (f3 l) l.length = 0 := by
                  obtain rfl : k3 = l.length := by omega
                  exact firstErr_zero hf.out
                have hv4 : forestFault l = firstOf [firstErr (f4 l) l.length] := by rw [Hv3.out, hE3]; rfl
                have Hv4 := Lib.hid hv4
                clear hv4 hE3 Hv3 hf hgk
                obtain ⟨wo3, rfl⟩ : ∃ wo3 : World, wo3 = wr := ⟨_, rfl⟩
                go_wp2_with fail
                go_loopg [84] l.length (fun gk i wr => ∃ k : Nat, i = .int .i64 k ∧ k ≤ l.length ∧ Hid (gk = l.length - k) ∧ Hid (∀ j, j < k → f4 l j = 0) ∧ Below w.heap.size w wr)
                case atStart => exact ⟨0, rfl, by omega, rfl, fun j hj => by omega, hb⟩
                case round =>
                  clear hb
                  obtain ⟨k4, rfl, hk4, hgk, hf, hb⟩ := hrel
                  by_cases hlt4 : k4 < l.length
                  · obtain ⟨b, off, ha, c0, c1⟩ := (hl.below hb).topic hlt4
                    have hlr := hl.below hb
                    have hf4 : f4 l k4 = if (ForestPure.aboveN l (l.length + 1) l[k4].1).length > 5 then 2 else 0 := by
                      unfold f4; rw [List.getElem?_eq_getElem hlt4]
                    have Hf4 := Lib.hid hf4
                    have HA := Lib.hid (fun w hl => aboveOf_any l a cap l[k4].1 w hl hlen)
                    have hrl := aboveN_length l (l.length + 1) l[k4].1
                    clear hf4
                    generalize ForestPure.aboveN l (l.length + 1) l[k4].1 = r at *
                    rw [ha] at HA hlr
                    rw [ha]
                    generalize l[k4].1 = x1 at *
                    generalize l[k4].2 = x2 at *
                    have hz := hb.size
                    have Hlr := Lib.hid hlr
                    clear hlr
                    by_cases h5 : 5 < r.length
                    · have hz2 : f4 l k4 = 2 := by rw [Hf4.out, if_pos h5]
                      have he2 : firstErr (f4 l) l.length = 2 := by rw [firstErr_at hlt4 hf (by rw [hz2]; decide), hz2]
                      have hfin : forestFault l = 2 := by rw [Hv4.out, he2]; rfl
                      have Hfin := Lib.hid hfin
                      clear hz2 he2 hfin
                      go_wp2_with fail
                      refine (HA.out _ (Hlr.out.alloc _)).mono ?_
                      rintro e w1 ⟨v, rfl, hown, hb1⟩
                      obtain ⟨a1, cap1, rfl, hsa, hbl, hcp⟩ := hown.sa
                      go_wp2_with fail
                      go_ret
                      exact ⟨by rw [Hfin.out]; rfl, by have hz1 := hb1.size; (repeat' (first | exact Below.refl _ _ | assumption | refine Below.setCell ?_ ?_ _ | refine below_drewN ?_ _ | refine Below.drew ?_ | refine Below.alloc ?_ ?_ _ | (with_reducible refine Below.trans ?_ (Below.mono hb ?_)) | (with_reducible refine Below.trans ?_ (Below.mono hb0 ?_)) | (with_reducible refine Below.trans ?_ (Below.mono hb1 ?_)) | (with_reducible refine Below.trans ?_ (Below.mono hb2 ?_)) | (with_reducible refine Below.trans ?_ (Below.mono hb3 ?_)) | (with_reducible refine Below.trans ?_ (Below.mono hb4 ?_)) | (with_reducible refine Below.trans ?_ (Below.mono hb5 ?_)) | (with_reducible refine Below.trans ?_ (Below.mono hb6 ?_)) | (with_reducible refine Below.trans ?_ (Below.mono hb7 ?_)) | (with_reducible refine Below.trans ?_ (Below.mono hb8 ?_)) | (with_reducible refine Below.trans ?_ (Below.mono hb9 ?_)) | (with_reducible refine Below.trans ?_ (Below.mono hb10 ?_)) | (with_reducible refine Below.trans ?_ (Below.mono hb11 ?_)) | (with_reducible refine Below.trans ?_ (Below.mono hb12 ?_)) | (with_reducible refine Below.trans ?_ (Below.mono hb13 ?_)) | (with_reducible refine Below.trans ?_ (Below.mono hb14 ?_)) | (with_reducible refine Below.trans ?_ (Below.mono hb15 ?_)) | omega | (simp; done) | (simp; omega)))⟩
                    · have hz0 : f4 l k4 = 0 := by rw [Hf4.out, if_neg h5]
                      have Hz0 := Lib.hid hz0
                      clear hz0
                      go_wp2_with fail
                      refine (HA.out _ (Hlr.out.alloc _)).mono ?_
                      rintro e w1 ⟨v, rfl, hown, hb1⟩
                      obtain ⟨a1, cap1, rfl, hsa, hbl, hcp⟩ := hown.sa
                      go_wp2_with fail
                      rw [← ha]
                      go_roundg (l.length - (k4 + 1))
                      case measure => have := hgk.out; omega
                      case rel => exact ⟨k4 + 1, by go_num, by omega, rfl, zeros_succ hf.out Hz0.out, by have hz1 := hb1.size; (repeat' (first | exact Below.refl _ _ | assumption | refine Below.setCell ?_ ?_ _ | refine below_drewN ?_ _ | refine Below.drew ?_ | refine Below.alloc ?_ ?_ _ | (with_reducible refine Below.trans ?_ (Below.mono hb ?_)) | (with_reducible refine Below.trans ?_ (Below.mono hb0 ?_)) | (with_reducible refine Below.trans ?_ (Below.mono hb1 ?_)) | (with_reducible refine Below.trans ?_ (Below.mono hb2 ?_)) | (with_reducible refine Below.trans ?_ (Below.mono hb3 ?_)) | (with_reducible refine Below.trans ?_ (Below.mono hb4 ?_)) | (with_reducible refine Below.trans ?_ (Below.mono hb5 ?_)) | (with_reducible refine Below.trans ?_ (Below.mono hb6 ?_)) | (with_reducible refine Below.trans ?_ (Below.mono hb7 ?_)) | (with_reducible refine Below.trans ?_ (Below.mono hb8 ?_)) | (with_reducible refine Below.trans ?_ (Below.mono hb9 ?_)) | (with_reducible refine Below.trans ?_ (Below.mono hb10 ?_)) | (with_reducible refine Below.trans ?_ (Below.mono hb11 ?_)) | (with_reducible refine Below.trans ?_ (Below.mono hb12 ?_)) | (with_reducible refine Below.trans ?_ (Below.mono hb13 ?_)) | (with_reducible refine Below.trans ?_ (Below.mono hb14 ?_)) | (with_reducible refine Below.trans ?_ (Below.mono hb15 ?_)) | omega | (simp; done) | (simp; omega)))⟩
                  · have hE4 : firstErr (f4 l) l.length = 0 := by
                      obtain rfl : k4 = l.length := by omega
                      exact firstErr_zero hf.out
                    have hfin : forestFault l = 0 := by rw [Hv4.out, hE4]; rfl
                    have Hfin := Lib.hid hfin
                    clear hfin hE4 hf
                    go_wp2_with fail
                    go_ret
                    exact ⟨by rw [Hfin.out]; rfl, hb⟩
end Go.Proofs.YtpgofjjcmldhpaaGreatDoor
