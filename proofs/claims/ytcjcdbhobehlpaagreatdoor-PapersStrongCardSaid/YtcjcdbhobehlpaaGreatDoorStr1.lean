/- The strengths of ways: Strongest of the program. -/
import Derived.Test.YtcjcdbhobehlpaaGreatDoorTab
import Derived.Test.YtcjcdbhobehlpaaGreatDoorStable
import Derived.Test.YtcjcdbhobehlpaaGreatDoorMat
import Derived.Test.YtcjcdbhobehlpaaGreatDoorRegF
import Derived.Test.YtcjcdbhobehlpaaGreatDoorStrs
import Derived.Test.YtcjcdbhobehlpaaGreatDoorMakeMark
namespace Go.Proofs.YtcjcdbhobehlpaaGreatDoor
open Go.RowKit
set_option linter.unusedVariables false
set_option linter.unusedSimpArgs false

/-- How often the paper at i wins against the one at k, where it wins more often than it loses. -/
def edgI (l : List Mark) (ks : List ByteArray) (i k : Nat) : Int := if (rowOf l ks k).getD i 0 < (rowOf l ks i).getD k 0 then (rowOf l ks i).getD k 0 else 0
def initTo (E : Nat → Nat → Int) (i k a c : Nat) : Int := if a < i ∨ (a = i ∧ c < k) then E a c else 0
theorem Mat.congr {base B n k : Nat} {w : World} {bs : Nat → Nat} {f g : Nat → Nat → Int} (h : Mat base w B n k bs f) (hg : ∀ a c, a < k → c < n → f a c = g a c) : Mat base w B n k bs g :=
 ⟨h.hd, fun i hi => by rw [cellsF_congr (g := f i) intF (fun c hc => (hg i c hi hc).symm)]; exact h.row i hi, h.low, h.rlow, h.inj⟩
def ixOf (ks : List ByteArray) (p : ByteArray) : Nat := ks.findIdx (fun q => decide (q = p))
theorem ixOf_at {ks : List ByteArray} (hn : ks.Nodup) {i : Nat} (hi : i < ks.length) : ixOf ks ks[i] = i := by
 have h1 : ixOf ks ks[i] < ks.length := List.findIdx_lt_length_of_exists ⟨ks[i], List.getElem_mem hi, decide_eq_true rfl⟩
 have h2 := List.findIdx_getElem (w := h1)
 have h3 : ks[ixOf ks ks[i]] = ks[i] := of_decide_eq_true h2
 have h4 := List.pairwise_iff_getElem.1 hn
 refine Classical.byContradiction (fun hne => ?_)
 rcases Nat.lt_or_gt_of_ne hne with h5 | h5
 ·
  exact h4 _ _ h1 hi h5 h3
 ·
  exact h4 _ _ hi h1 h5 h3.symm
theorem ixOf_eq {ks : List ByteArray} {p : ByteArray} {i : Nat} (hi : i < ks.length) (h : ixOf ks p = i) : ks[i] = p := by
 have h1 : ixOf ks p < ks.length := by omega
 have h2 := List.findIdx_getElem (w := h1)
 subst h
 exact of_decide_eq_true h2
theorem ixOf_lt {ks : List ByteArray} {p : ByteArray} (h : p ∈ ks) : ixOf ks p < ks.length := List.findIdx_lt_length_of_exists ⟨p, h, decide_eq_true rfl⟩
/-- What the map of strengths holds. -/
def strW (ks : List ByteArray) (f : Nat → Nat → Int) (i k : Nat) (p : ByteArray) : Int := if ixOf ks p < i then (cntTo f (ixOf ks p) ks.length : Nat) else if ixOf ks p = i then (cntTo f i k : Nat) else 0
theorem strW_next (ks : List ByteArray) (f : Nat → Nat → Int) (i : Nat) : strW ks f i ks.length = strW ks f (i + 1) 0 := by
 funext p
 unfold strW
 by_cases h1 : ixOf ks p < i
 ·
  rw [if_pos h1, if_pos (by omega)]
 ·
  rw [if_neg h1]
  by_cases h2 : ixOf ks p = i
  ·
   rw [if_pos h2, if_pos (by omega), h2]
  ·
   rw [if_neg h2, if_neg (by omega)]
   split <;> rfl
theorem strW_step {ks : List ByteArray} (hn : ks.Nodup) (f : Nat → Nat → Int) {i k : Nat} (hi : i < ks.length) : strW ks f i (k + 1) = if f k i < f i k then updF (strW ks f i k) ks[i] (strW ks f i k ks[i] + 1) else strW ks f i k := by
 have hx := ixOf_at hn hi
 funext p
 split
 ·
  next h =>
  unfold updF
  by_cases e : ks[i] = p
  ·
   subst e
   rw [if_pos rfl]
   unfold strW
   rw [hx, if_neg (by omega), if_pos rfl, if_neg (by omega), if_pos rfl]
   show ((cntTo f i k + if f k i < f i k then 1 else 0 : Nat) : Int) = _
   rw [if_pos h]
   omega
  ·
   rw [if_neg e]
   unfold strW
   have e2 : ixOf ks p ≠ i := fun h2 => e (ixOf_eq hi h2)
   rw [if_neg e2, if_neg e2]
 ·
  next h =>
  unfold strW
  have e : cntTo f i (k + 1) = cntTo f i k := by
   show cntTo f i k + (if f k i < f i k then 1 else 0) = _
   rw [if_neg h]; rfl
  rw [e]
theorem strW_zero (ks : List ByteArray) (f : Nat → Nat → Int) : strW ks f 0 0 = fun _ => 0 := by
 funext p
 unfold strW
 rw [if_neg (Nat.not_lt_zero _)]
 split <;> rfl
theorem strW_bd (ks : List ByteArray) (f : Nat → Nat → Int) {i k : Nat} (hk : k ≤ ks.length) (p : ByteArray) : 0 ≤ strW ks f i k p ∧ strW ks f i k p ≤ ks.length := by
 unfold strW
 have h1 := cntTo_le f (ixOf ks p) ks.length
 have h2 := cntTo_le f i k
 split
 ·
  omega
 ·
  split <;> omega
/-- One paper against another by what they are stronger than. -/
def cmpC (C : ByteArray → Int) (x y : ByteArray) : Int := Lib.compareInt (C y) (C x)
def wayI (l : List Mark) (ks : List ByteArray) : Nat → Nat → Int := fwM (edgI l ks) ks.length ks.length
def strongL (l : List Mark) : List ByteArray := isort (cmpC (strW (keysOf (fun x => x.1) l) (wayI l (keysOf (fun x => x.1) l)) (keysOf (fun x => x.1) l).length 0)) (keysOf (fun x => x.1) l)
/-- A table of wins: where its cells lie. -/
theorem TabAt.fn {w : World} {tb : Nat} {ks : List ByteArray} {f : Nat → List Int} (h : TabAt w tb ks f) (hf : ∀ i, i < ks.length → (f i).length = ks.length) : ∃ (aK : Option Addr) (capK : Nat) (aW : Option Addr) (capW wb wo : Nat) (rb ro rc : Nat → Nat), (∀ W, Below w.heap.size w W → SA W aK ks ∧ W.cell? ⟨tb, 0, none⟩ = some (.slice aK ks.length capK) ∧ W.cell? ⟨tb, 1, none⟩ = some (.slice aW ks.length capW)) ∧
  (∀ i, i < ks.length → aW = some ⟨wb, wo, none⟩ ∧ ∀ W, Below w.heap.size w W → W.cell? ⟨wb, wo + i, none⟩ = some (.slice (some ⟨rb i, ro i, none⟩) ks.length (rc i)) ∧ ∀ k, k < ks.length → W.cell? ⟨rb i, ro i + k, none⟩ = some (.int .i64 ((f i).getD k 0))) := by
 obtain ⟨aK, capK, aW, capW, hdrs, hB, hsaK, hsaW, hhl, hrows⟩ := h
 have hr : ∀ i, ∃ q : Nat × Nat × Nat, i < ks.length → ∃ hi : i < hdrs.length, hdrs[i] = (some ⟨q.1, q.2.1, none⟩, ks.length, q.2.2) := fun i => by
  by_cases hi : i < ks.length
  ·
   have hi' : i < hdrs.length := by omega
   obtain ⟨h1, h2⟩ := hrows i hi'
   have hl := hf i hi
   rcases h2 with h2 | ⟨b, off, e, _⟩
   ·
    rw [h2] at hl; simp at hl; omega
   ·
    exact ⟨(b, off, hdrs[i].2.2), fun _ => ⟨hi', by rw [← e, ← h1]⟩⟩
  ·
   exact ⟨(0, 0, 0), fun h => absurd h hi⟩
 obtain ⟨q, hq⟩ := Classical.axiomOfChoice hr
 have ha : ∃ wb wo, ∀ i, i < ks.length → aW = some ⟨wb, wo, none⟩ := by
  rcases hsaW with h | ⟨b, off, e, _⟩
  ·
   exact ⟨0, 0, fun i hi => by rw [h] at hhl; simp at hhl; omega⟩
  ·
   exact ⟨b, off, fun _ _ => e⟩
 obtain ⟨wb, wo, haW⟩ := ha
 refine ⟨aK, capK, aW, capW, wb, wo, fun i => (q i).1, fun i => (q i).2.1, fun i => (q i).2.2, fun W hW => ⟨hsaK.below hW, (hB.below hW).cell 0, (hB.below hW).cell 1⟩, fun i hi => ⟨haW i hi, fun W hW => ?_⟩⟩
 obtain ⟨hi', hqi⟩ := hq i hi
 obtain ⟨b, off, e, c⟩ := (hsaW.below hW).hdr hi'
 rw [haW i hi] at e
 cases e
 rw [hqi] at c
 refine ⟨c, fun k hk => ?_⟩
 have h2 := (hrows i hi').2.below hW
 rw [hqi] at h2
 have hkl : k < (f i).length := by rw [hf i hi]; exact hk
 obtain ⟨b', o', e', c'⟩ := h2.int hkl
 cases e'
 rw [c', List.getD_eq_getElem?_getD, List.getElem?_eq_getElem hkl]
 rfl
theorem stClo_any (B mb : Nat) (C : ByteArray → Int) (x y : ByteArray) (W : World) (hB : W.cell? ⟨B, 0, none⟩ = some (.map (some mb))) (hM : MI W mb C) :
  Calls Tryz.prog 27 #[.string x, .string y, .pointer (some ⟨B, 0, none⟩)] W (Gives (.int .i64 (cmpC C x y)) W) := by
 have HC : Hid (cmpC C x y = Lib.compareInt (C y) (C x)) := rfl
 have HI := Lib.hid (Tryz.cmp_Compare_int (C y) (C x) W)
 have hlx := hM.look x
 have hly := hM.look y
 generalize cmpC C x y = R at *
 generalize C y = c1 at *
 generalize C x = c2 at *
 go_enter Tryz.func27, Tryz.ntmps27
 go_wp2_with fail
 refine HI.out.mono ?_
 rintro e w' ⟨rfl, rfl⟩
 go_wp2_with fail
 go_ret
 exact ⟨by rw [HC.out] <;> rfl, Below.refl _ _⟩
theorem edgI_low (l : List Mark) (ks : List ByteArray) (i k : Nat) : 0 ≤ edgI l ks i k ∧ edgI l ks i k ≤ l.length := by
 have h : ∀ i k, 0 ≤ (rowOf l ks i).getD k 0 ∧ (rowOf l ks i).getD k 0 ≤ l.length := fun i k => by
  rw [List.getD_eq_getElem?_getD]
  unfold rowOf
  rw [List.getElem?_map]
  cases e : ks[k]? with
  | none => simp
  | some b => simpa using winsN_bd l (ks.getD i ⟨#[]⟩) b
 unfold edgI
 have h1 := h i k
 split <;> omega
theorem viaM_bd {f : Nat → Nat → Int} {M : Int} (h : ∀ a b, 0 ≤ f a b ∧ f a b ≤ M) (m a b : Nat) : 0 ≤ viaM f m a b ∧ viaM f m a b ≤ M := by
 unfold viaM
 have := h a b; have := h a m; have := h m b
 omega
theorem fwK_bd {f : Nat → Nat → Int} {M : Int} (h : ∀ a b, 0 ≤ f a b ∧ f a b ≤ M) (m i k a b : Nat) : 0 ≤ fwK f m i k a b ∧ fwK f m i k a b ≤ M := by
 rw [fwK_at]
 split
 ·
  exact viaM_bd h m a b
 ·
  exact h a b
theorem fwI_bd {f : Nat → Nat → Int} {M : Int} (h : ∀ a b, 0 ≤ f a b ∧ f a b ≤ M) (m n i a b : Nat) : 0 ≤ fwI f m n i a b ∧ fwI f m n i a b ≤ M := by
 rw [fwI_at]
 split
 ·
  exact viaM_bd h m a b
 ·
  exact h a b
theorem fwM_bd {f : Nat → Nat → Int} {M : Int} (h : ∀ a b, 0 ≤ f a b ∧ f a b ≤ M) (n : Nat) : ∀ m a b, 0 ≤ fwM f n m a b ∧ fwM f n m a b ≤ M
 | 0, a, b => h a b
 | m + 1, a, b => fwI_bd (fwM_bd h n m) m n n a b
theorem rowOf_len (l : List Mark) (ks : List ByteArray) : ∀ i, i < ks.length → (rowOf l ks i).length = ks.length := fun i _ => rowOf_length l ks i
theorem len_sheet {es : List (ByteArray × Value)} {b1 : Nat} {w : World} (h : MBox w b1 es) (ty : TypeId) : (Builtin.len_ #[59] ty #[.map (some b1)]).run Tryz.prog w = .ok (.int .i64 es.length) w := by
 obtain ⟨ar, clock, h1, h2, _⟩ := h
 rw [run_len_map (r := b1) (es := ar) (clock := clock) (h := by kernel_rfl) (hb := h1)]
 have : ar.size = es.length := by
  have := congrArg List.length h2
  simpa using this
 rw [this]
 rfl
theorem sheet_len {sb b1 b2 base : Nat} {a : Option Addr} {n cap : Nat} {l : List Mark} {es1 es2 : List (ByteArray × Value)} {w : World} (h : ShSt sb b1 b2 base a n cap l l es1 es2 w) : es1.length = (keysOf (fun x => x.1) l).length := by
 have hp : (es1.map (·.1)).Perm (keysOf (fun x => x.1) l) := (List.perm_ext_iff_of_nodup h.one.nodup (keysS_rise _).nodup).2 (fun p => by rw [h.one.keys]; exact (keysOf_mem _ _ _).symm)
 have := hp.length_eq
 rwa [List.length_map] at this
set_option maxRecDepth 100000 in
set_option maxHeartbeats 8000000 in
theorem strongest_any (l : List Mark) (a : Option Addr) (cap : Nat) (w : World) (hs : SA w a l) (hl : l.length ≤ 400) (hks : ∀ x ∈ l, x.1.size ≤ 1000 ∧ x.2.1.size ≤ 1000) (hkn : (keysOf (fun x => x.1) l).length ≤ 19) :
  Calls Tryz.prog 7 #[.slice a l.length cap] w (GivesList (strongL l) (marksFault l) w) := by
 have hol : (strongL l).length ≤ 19 := by unfold strongL; rw [isort_length]; exact hkn
 obtain ⟨ks, hkk⟩ : ∃ ks, keysOf (fun x => x.1) l = ks := ⟨_, rfl⟩
 have HL : Hid (strongL l = isort (cmpC (strW ks (wayI l ks) ks.length 0)) ks) := by show _ = _; rw [← hkk]; rfl
 have Hnd : Hid ks.Nodup := by show ks.Nodup; rw [← hkk]; exact (keysS_rise _).nodup
 have HKK := Lib.hid hkk
 rw [hkk] at hkn
 generalize strongL l = out at *
 have hmkL := run_make_len (P := Tryz.prog) 64 22 (.slice none 0 0) 24 (by kernel_rfl) Tryz.infoRow rfl ks.length (by omega) (by omega)
 have hmkI := run_make_len (P := Tryz.prog) 22 3 (.int .i64 0) 8 (by kernel_rfl) Tryz.infoInt rfl ks.length (by omega) (by omega)
 clear hkk
 go_enter Tryz.func7, Tryz.ntmps7
 go_wp2_with fail
 refine (checked_any l a cap _ hs (by omega) hks).mono ?_
 rintro e w1 ⟨hb1, h1⟩
 rcases h1 with ⟨h0, rfl⟩ | ⟨h0, sb, rfl, hsh, hsb⟩
 ·
  have h0' : (marksFault l != 0) = true := by simpa using h0
  have H0 := Lib.hid h0
  clear h0
  go_wp2_with fail
  go_ret2
  exact ⟨hb1, none, 0, 0, rfl, by omega, fun h => absurd h H0.out⟩
 ·
  obtain ⟨b1, b2, base, a', cap', es1, es2, hst, hsa'⟩ := hsh
  have hel := sheet_len hst
  rw [HKK.out] at hel
  have hlr := len_sheet hst.one.box
  rw [hel] at hlr
  have HTB := Lib.hid (table_any sb b1 b2 base a' cap' l es1 es2 w1 hst h0 hl hks ks HKK.out)
  have H0 := Lib.hid h0
  have hS := hst.box
  have h60 : decide ((60 : Int) < (ks.length : Int)) = false := decide_eq_false (by omega)
  rw [h0]
  clear h0 hst hsa' hel
  have hS_l := hS.lt; have hS_0 := hS.cell 0; have hS_1 := hS.cell 1; have hS_2 := hS.cell 2; simp at hS_0 hS_1 hS_2
  go_wp2_with fail
  clear hS_l hS_0 hS_1 hS_2
  refine HTB.out.mono ?_
  rintro e w2 ⟨tb, rfl, hT, htb, hb2⟩
  have hb02 := below_next hb1 hb2
  obtain ⟨aK, capK, aW, capW, wb, wo, rb, ro, rc, hTK, hTR⟩ := hT.fn (rowOf_len l ks)
  have HTK := Lib.hid hTK
  have HTR := Lib.hid hTR
  have hK0 := (hTK w2 (Below.refl _ _)).2.1
  clear hTK hTR hT hS hb1 hb2 HTB
  go_upto_region 9 with (fail)
  have hX := Box.new w2 22 (Array.replicate ks.length (.slice none 0 0))
  have hM0 : Mat w2.heap.size (w2.alloc (.cells (Array.replicate ks.length (.slice none 0 0)) 22)) w2.heap.size ks.length 0 (fun _ => 0) (initTo (edgI l ks) 0 0) := Mat.new hX (Nat.le_refl _) _ _
  have hb23 : Below w2.heap.size w2 (w2.alloc (.cells (Array.replicate ks.length (.slice none 0 0)) 22)) := (Below.refl _ _).alloc (Nat.le_refl _) _
  generalize w2.alloc (.cells (Array.replicate ks.length (.slice none 0 0)) 22) = w3 at *
  obtain ⟨B, hB⟩ : ∃ B, B = w2.heap.size := ⟨_, rfl⟩
  have hB2 : w2.heap.size ≤ B := by omega
  rw [← hB] at hM0
  rw [← hB]
  clear hB hX hmkL hlr h60 hK0
  go_wp2_with fail
  go_loopg [44] ks.length (fun gk iv wr => ∃ (i : Nat) (bs : Nat → Nat), iv = .int .i64 i ∧ i ≤ ks.length ∧ Hid (gk = ks.length - i) ∧ Mat B wr B ks.length i bs (initTo (edgI l ks) i 0) ∧ Below w2.heap.size w2 wr)
  case atStart => exact ⟨0, _, rfl, by omega, rfl, hM0, hb23⟩
  case round =>
   clear hM0 hb23
   obtain ⟨i, bs, rfl, hi, hgi, hM, hb⟩ := hrel
   by_cases hlt : i < ks.length
   ·
    have hhd := hM.hd.alloc (.cells (Array.replicate ks.length (.int .i64 0)) 3)
    have hc0 := hhd.cellF hlt
    have hf0 := hhd.frozen i
    have hi0 : (0 : Int) ≤ (i : Int) := by omega
    have hi2 : (i : Int) < (ks.length : Int) := by omega
    have hM1 := hM.make hlt ((Below.refl _ _).alloc (Nat.le_refl _) (.cells (Array.replicate ks.length (.int .i64 0)) 3)) (Nat.le_refl _) (Box.new wr 3 (Array.replicate ks.length (.int .i64 0)))
    have hM2 := hM1.congr (g := initTo (edgI l ks) i 0) (fun a c ha hc => by
     unfold upd initTo
     by_cases e : a = i
     ·
      rw [if_pos e, if_neg (by omega)]
     ·
      rw [if_neg e])
    have HM2 := Lib.hid hM2
    have hbF := (hb.alloc hb.size (.cells (Array.replicate ks.length (.int .i64 0)) 3)).setCell (p := ⟨B, i, none⟩) hB2 (.slice (some ⟨wr.heap.size, 0, none⟩) ks.length ks.length)
    have HBF := Lib.hid hbF
    clear hhd hM1 hM2 hbF hM hb
    go_upto_region 13 with (fail)
    clear hc0 hf0
    generalize (wr.alloc (.cells (Array.replicate ks.length (.int .i64 0)) 3)).setCell ⟨B, i, none⟩ (.slice (some ⟨wr.heap.size, 0, none⟩) ks.length ks.length) = w4 at *
    generalize upd bs i wr.heap.size = bs1 at *
    have hhc := HM2.out.head (Nat.lt_succ_self i) hlt
    go_wp2_with fail
    clear hhc
    go_loopg [57] ks.length (fun gj kv wq => ∃ k : Nat, kv = .int .i64 k ∧ k ≤ ks.length ∧ Hid (gj = ks.length - k) ∧ Mat B wq B ks.length (i + 1) bs1 (initTo (edgI l ks) i k) ∧ Below w2.heap.size w2 wq)
    case atStart => exact ⟨0, rfl, by omega, rfl, HM2.out, HBF.out⟩
    case round =>
     clear HM2 HBF
     obtain ⟨k, rfl, hk, hgk, hM, hb⟩ := hrel
     by_cases hkl : k < ks.length
     ·
      obtain ⟨haW, hRi⟩ := HTR.out i hlt
      obtain ⟨-, hRk⟩ := HTR.out k hkl
      obtain ⟨t1, t2⟩ := hRi _ hb
      have t3 := t2 k hkl
      obtain ⟨t4, t5⟩ := hRk _ hb
      have t6 := t5 i hlt
      have t7 := (HTK.out _ hb).2.2
      rw [haW] at t7
      have HE : Hid (edgI l ks i k = if (rowOf l ks k).getD i 0 < (rowOf l ks i).getD k 0 then (rowOf l ks i).getD k 0 else 0) := rfl
      generalize (rowOf l ks k).getD i 0 = y at *
      generalize (rowOf l ks i).getD k 0 = x at *
      have hk0 : (0 : Int) ≤ (k : Int) := by omega
      have hk2 : (k : Int) < (ks.length : Int) := by omega
      have hhc := hM.head (Nat.lt_succ_self i) hlt
      have HMq := Lib.hid hM
      clear t2 t5 hRi hRk haW
      by_cases hxy : y < x
      ·
       have hd : decide (y < x) = true := decide_eq_true hxy
       have HE2 : Hid (edgI l ks i k = x) := by show _ = _; rw [HE.out, if_pos hxy]
       clear HE hxy
       go_upto_region 16 with (fail)
       go_quiet (fail)
       have hbd : Below wr.heap.size wr (wr.drewN nq) := below_drewN (Below.refl _ _) nq
       have u1 := cell_later hbd t1
       have u3 := cell_later hbd t3
       have u7 := cell_later hbd t7
       have uh := cell_later hbd hhc
       have hM3 := HMq.out.below hbd
       have hb3 := below_next hb hbd
       clear t1 t3 t4 t6 t7 hhc HMq hb hbd hM
       generalize wr.drewN nq = wd at *
       have hcx := hM3.get (Nat.lt_succ_self i) hkl
       have hfx := (hM3.row i (Nat.lt_succ_self i)).frozen k
       have HM4 := Lib.hid (((hM3.put (Nat.lt_succ_self i) k x).below (Below.refl (wd.setCell ⟨bs1 i, k, none⟩ (.int .i64 x)).heap.size _).drew).congr (g := initTo (edgI l ks) i (k + 1)) (fun a c ha hc => by
        unfold updM initTo
        by_cases e : a = i ∧ c = k
        ·
         rw [if_pos e, if_pos (by omega), e.1, e.2, HE2.out]
        ·
         rw [if_neg e]
         by_cases e2 : a < i ∨ (a = i ∧ c < k)
         ·
          rw [if_pos e2, if_pos (by omega)]
         ·
          rw [if_neg e2, if_neg (by omega)]))
       have HB4 := Lib.hid (hb3.setCell (p := ⟨bs1 i, k, none⟩) (by have := hM3.rlow i (Nat.lt_succ_self i); show w2.heap.size ≤ bs1 i; omega) (.int .i64 x)).drew
       clear hM3 hb3
       go_upto_region 17 with (fail)
       refine wp_regionF (S := (fun wx => wx.cell? ⟨wb, wo + i, none⟩ = some (.slice (some ⟨rb i, ro i, none⟩) ks.length (rc i)) ∧ wx.cell? ⟨rb i, ro i + k, none⟩ = some (.int .i64 x) ∧ wx.cell? ⟨tb, 1, none⟩ = some (.slice (some ⟨wb, wo, none⟩) ks.length capW) ∧ wx.cell? ⟨B, i, none⟩ = some (.slice (some ⟨bs1 i, 0, none⟩) ks.length ks.length))) 16 (by kernel_rfl) ?hS (fun hHeld => ?_)
       case hS => exact ⟨u1, u3, u7, uh⟩
       refine rtakeF (i := 0) (d := (some 81)) (v := ?_) (n := 40) rfl (by kernel_rfl) (by kernel_rfl) (by kernel_rfl) (by kernel_rfl) (by kernel_rfl) (by kernel_rfl) (fun _ _ _ h => h) (by kernel_rfl) (by assumption) ?_ ?_
       rotate_left 1
       ·
        (intro wI hSI; (try dsimp only at hSI); go_simp; (try with_reducible rfl))
       simp only [Act.put, lsetA, lsetZ, lsetS]
       refine rtakeF (i := 1) (d := (some 82)) (v := ?_) (n := 40) rfl (by kernel_rfl) (by kernel_rfl) (by kernel_rfl) (by kernel_rfl) (by kernel_rfl) (by kernel_rfl) (fun _ _ _ h => h) (by kernel_rfl) (by assumption) ?_ ?_
       rotate_left 1
       ·
        (intro wI hSI; (try dsimp only at hSI); go_simp; (try with_reducible rfl))
       simp only [Act.put, lsetA, lsetZ, lsetS]
       refine rtakeF (i := 2) (d := (some 83)) (v := ?_) (n := 40) rfl (by kernel_rfl) (by kernel_rfl) (by kernel_rfl) (by kernel_rfl) (by kernel_rfl) (by kernel_rfl) (fun _ _ _ h => h) (by kernel_rfl) (by assumption) ?_ ?_
       rotate_left 1
       ·
        (intro wI hSI; (try dsimp only at hSI); go_simp; (try with_reducible rfl))
       simp only [Act.put, lsetA, lsetZ, lsetS]
       refine rtakeF (i := 3) (d := (some 84)) (v := ?_) (n := 40) rfl (by kernel_rfl) (by kernel_rfl) (by kernel_rfl) (by kernel_rfl) (by kernel_rfl) (by kernel_rfl) (fun _ _ _ h => h) (by kernel_rfl) (by assumption) ?_ ?_
       rotate_left 1
       ·
        (intro wI hSI; (try dsimp only at hSI); go_simp; (try with_reducible rfl))
       simp only [Act.put, lsetA, lsetZ, lsetS]
       refine rtakeF (i := 4) (d := (some 85)) (v := ?_) (n := 40) rfl (by kernel_rfl) (by kernel_rfl) (by kernel_rfl) (by kernel_rfl) (by kernel_rfl) (by kernel_rfl) (fun _ _ _ h => h) (by kernel_rfl) (by assumption) ?_ ?_
       rotate_left 1
       ·
        (intro wI hSI; (try dsimp only at hSI); go_simp; (try with_reducible rfl))
       simp only [Act.put, lsetA, lsetZ, lsetS]
       refine rtakeF (i := 5) (d := (some 86)) (v := ?_) (n := 40) rfl (by kernel_rfl) (by kernel_rfl) (by kernel_rfl) (by kernel_rfl) (by kernel_rfl) (by kernel_rfl) (fun _ _ _ h => h) (by kernel_rfl) (by assumption) ?_ ?_
       rotate_left 1
       ·
        (intro wI hSI; (try dsimp only at hSI); go_simp; (try with_reducible rfl))
       simp only [Act.put, lsetA, lsetZ, lsetS]
       refine rtakeF (i := 6) (d := (some 87)) (v := ?_) (n := 40) rfl (by kernel_rfl) (by kernel_rfl) (by kernel_rfl) (by kernel_rfl) (by kernel_rfl) (by kernel_rfl) (fun _ _ _ h => h) (by kernel_rfl) (by assumption) ?_ ?_
       rotate_left 1
       ·
        (intro wI hSI; (try dsimp only at hSI); go_simp; (try with_reducible rfl))
       simp only [Act.put, lsetA, lsetZ, lsetS]
       refine rtakeF (i := 7) (d := (some 88)) (v := ?_) (n := 40) rfl (by kernel_rfl) (by kernel_rfl) (by kernel_rfl) (by kernel_rfl) (by kernel_rfl) (by kernel_rfl) (fun _ _ _ h => h) (by kernel_rfl) (by assumption) ?_ ?_
       rotate_left 1
       ·
        (intro wI hSI; (try dsimp only at hSI); go_simp; (try with_reducible rfl))
       simp only [Act.put, lsetA, lsetZ, lsetS]
       refine rtakeF (i := 8) (d := (some 89)) (v := ?_) (n := 40) rfl (by kernel_rfl) (by kernel_rfl) (by kernel_rfl) (by kernel_rfl) (by kernel_rfl) (by kernel_rfl) (fun _ _ _ h => h) (by kernel_rfl) (by assumption) ?_ ?_
       rotate_left 1
       ·
        (intro wI hSI; (try dsimp only at hSI); go_simp; (try with_reducible rfl))
       simp only [Act.put, lsetA, lsetZ, lsetS]
       refine rtakeF (i := 9) (d := (some 90)) (v := ?_) (n := 40) rfl (by kernel_rfl) (by kernel_rfl) (by kernel_rfl) (by kernel_rfl) (by kernel_rfl) (by kernel_rfl) (fun _ _ _ h => h) (by kernel_rfl) (by assumption) ?_ ?_
       rotate_left 1
       ·
        (intro wI hSI; (try dsimp only at hSI); go_simp; (try with_reducible rfl))
       simp only [Act.put, lsetA, lsetZ, lsetS]
       refine rtakeF (i := 10) (d := (some 91)) (v := ?_) (n := 40) rfl (by kernel_rfl) (by kernel_rfl) (by kernel_rfl) (by kernel_rfl) (by kernel_rfl) (by kernel_rfl) (fun _ _ _ h => h) (by kernel_rfl) (by assumption) ?_ ?_
       rotate_left 1
       ·
        (intro wI hSI; (try dsimp only at hSI); go_simp; (try with_reducible rfl))
       simp only [Act.put, lsetA, lsetZ, lsetS]
       refine rtakeF (i := 11) (d := (some 92)) (v := ?_) (n := 40) rfl (by kernel_rfl) (by kernel_rfl) (by kernel_rfl) (by kernel_rfl) (by kernel_rfl) (by kernel_rfl) (fun _ _ _ h => h) (by kernel_rfl) (by assumption) ?_ ?_
       rotate_left 1
       ·
        (intro wI hSI; (try dsimp only at hSI); go_simp; (try with_reducible rfl))
       simp only [Act.put, lsetA, lsetZ, lsetS]
       refine rtakeF (i := 12) (d := (some 93)) (v := ?_) (n := 40) rfl (by kernel_rfl) (by kernel_rfl) (by kernel_rfl) (by kernel_rfl) (by kernel_rfl) (by kernel_rfl) (fun _ _ _ h => h) (by kernel_rfl) (by assumption) ?_ ?_
       rotate_left 1
       ·
        (intro wI hSI; (try dsimp only at hSI); go_simp; (try with_reducible rfl))
       simp only [Act.put, lsetA, lsetZ, lsetS]
       refine rtakeF (i := 13) (d := (some 94)) (v := ?_) (n := 40) rfl (by kernel_rfl) (by kernel_rfl) (by kernel_rfl) (by kernel_rfl) (by kernel_rfl) (by kernel_rfl) (fun _ _ _ h => h) (by kernel_rfl) (by assumption) ?_ ?_
       rotate_left 1
       ·
        (intro wI hSI; (try dsimp only at hSI); go_simp; (try with_reducible rfl))
       simp only [Act.put, lsetA, lsetZ, lsetS]
       refine rtakeF (i := 14) (d := (some 95)) (v := ?_) (n := 40) rfl (by kernel_rfl) (by kernel_rfl) (by kernel_rfl) (by kernel_rfl) (by kernel_rfl) (by kernel_rfl) (fun _ _ _ h => h) (by kernel_rfl) (by assumption) ?_ ?_
       rotate_left 1
       ·
        (intro wI hSI; (try dsimp only at hSI); go_simp; (try with_reducible rfl))
       simp only [Act.put, lsetA, lsetZ, lsetS]
       refine rtakeF (i := 15) (d := (some 96)) (v := ?_) (n := 40) rfl (by kernel_rfl) (by kernel_rfl) (by kernel_rfl) (by kernel_rfl) (by kernel_rfl) (by kernel_rfl) (fun _ _ _ h => h) (by kernel_rfl) (by assumption) ?_ ?_
       rotate_left 1
       ·
        (intro wI hSI; (try dsimp only at hSI); go_simp; (try with_reducible rfl))
       simp only [Act.put, lsetA, lsetZ, lsetS]
       refine rcallF (i := 16) (d := none) (by kernel_rfl) rfl (by kernel_rfl) (fun K hK => ?_)
       go_simp
       refine hK.out undef _ (.inl rfl) (fun _ => ?_)
       clear hK K
       simp only [Act.put, lsetA, lsetZ, lsetS]
       refine wpAnyF_done (by kernel_rfl) ?_ _
       clear u1 u3 u7 uh hcx hfx
       generalize (wd.setCell ⟨bs1 i, k, none⟩ (.int .i64 x)).drew = wF at *
       go_wp2_with fail
       go_roundg (ks.length - (k + 1))
       case measure => have := hgk.out; omega
       case rel => exact ⟨k + 1, by go_num, by omega, rfl, HM4.out, HB4.out⟩
      ·
       have hd : decide (y < x) = false := decide_eq_false hxy
       have HE2 : Hid (edgI l ks i k = 0) := by show _ = _; rw [HE.out, if_neg hxy]
       clear HE hxy
       go_upto_region 16 with (fail)
       go_quiet (fail)
       have hbd : Below wr.heap.size wr (wr.drewN nq) := below_drewN (Below.refl _ _) nq
       have HM4 := Lib.hid ((HMq.out.below hbd).congr (g := initTo (edgI l ks) i (k + 1)) (fun a c ha hc => by
        unfold initTo
        by_cases e2 : a < i ∨ (a = i ∧ c < k)
        ·
         rw [if_pos e2, if_pos (by omega)]
        ·
         rw [if_neg e2]
         by_cases e : a = i ∧ c = k
         ·
          rw [if_pos (by omega), e.1, e.2, HE2.out]
         ·
          rw [if_neg (by omega)]))
       have HB4 := Lib.hid (below_next hb hbd)
       clear t1 t3 t4 t6 t7 hhc HMq hb hbd hM
       generalize wr.drewN nq = wd at *
       go_wp2_with fail
       go_roundg (ks.length - (k + 1))
       case measure => have := hgk.out; omega
       case rel => exact ⟨k + 1, by go_num, by omega, rfl, HM4.out, HB4.out⟩
     ·
      obtain rfl : k = ks.length := by omega
      have HM4 := Lib.hid (hM.congr (g := initTo (edgI l ks) (i + 1) 0) (fun a c ha hc => by
       unfold initTo
       rw [if_pos (by omega), if_pos (by omega)]))
      have HB4 := Lib.hid hb
      clear hM hb
      go_wp2_with fail
      go_roundg (ks.length - (i + 1))
      case measure => have := hgi.out; omega
      case rel => exact ⟨i + 1, _, by go_num, by omega, rfl, HM4.out, HB4.out⟩
   ·
    obtain rfl : i = ks.length := by omega
    have hM1 := hM.congr (g := fwM (edgI l ks) ks.length 0) (fun a c ha hc => by
     unfold initTo
     rw [if_pos (by omega)]
     rfl)
    have hbI := hb
    have HBD : Hid (∀ m a b, 0 ≤ fwM (edgI l ks) ks.length m a b ∧ fwM (edgI l ks) ks.length m a b ≤ l.length) := fun m a b => fwM_bd (fun a b => edgI_low l ks a b) ks.length m a b
    clear hM hb hgi hlt hi hmkI
    have HFW : Hid (wayI l ks = fwM (edgI l ks) ks.length ks.length) := rfl
    generalize edgI l ks = E at *
    go_wp2_with fail
    go_loopg [100] ks.length (fun gk mv wr => ∃ m : Nat, mv = .int .i64 m ∧ m ≤ ks.length ∧ Hid (gk = ks.length - m) ∧ Mat B wr B ks.length ks.length bs (fwM E ks.length m) ∧ Below w2.heap.size w2 wr)
    case atStart => exact ⟨0, rfl, by omega, rfl, hM1, hbI⟩
    case round =>
     clear hM1 hbI
     obtain ⟨m, rfl, hm, hgm, hM, hb⟩ := hrel
     by_cases hml : m < ks.length
     ·
      have hM1 : Mat B wr B ks.length ks.length bs (fwI (fwM E ks.length m) m ks.length 0) := hM
      have hb1' := hb
      have HNX : Hid (fwM E ks.length (m + 1) = fwI (fwM E ks.length m) m ks.length ks.length) := rfl
      have hBM := HBD.out m
      clear hM hb
      generalize fwM E ks.length m = f at *
      have HBf : Hid (∀ a b, 0 ≤ f a b ∧ f a b ≤ l.length) := hBM
      clear hBM
      go_wp2_with fail
      go_loopg [104] ks.length (fun gk iv wr => ∃ i : Nat, iv = .int .i64 i ∧ i ≤ ks.length ∧ Hid (gk = ks.length - i) ∧ Mat B wr B ks.length ks.length bs (fwI f m ks.length i) ∧ Below w2.heap.size w2 wr)
      case atStart => exact ⟨0, rfl, by omega, rfl, hM1, hb1'⟩
      case round =>
       clear hM1 hb1'
       obtain ⟨i, rfl, hi, hgi, hM, hb⟩ := hrel
       by_cases hil : i < ks.length
       ·
        have hM1 : Mat B wr B ks.length ks.length bs (fwK (fwI f m ks.length i) m i 0) := hM
        have hb1' := hb
        have HNI : Hid (fwI f m ks.length (i + 1) = fwK (fwI f m ks.length i) m i ks.length) := rfl
        have HBh : Hid (∀ k a b, 0 ≤ fwK (fwI f m ks.length i) m i k a b ∧ fwK (fwI f m ks.length i) m i k a b ≤ l.length) := fun k a b => fwK_bd (fun a b => fwI_bd HBf.out m ks.length i a b) m i k a b
        clear hM hb
        generalize fwI f m ks.length i = h at *
        go_wp2_with fail
        go_loopg [108] ks.length (fun gk kv wr => ∃ k : Nat, kv = .int .i64 k ∧ k ≤ ks.length ∧ Hid (gk = ks.length - k) ∧ Mat B wr B ks.length ks.length bs (fwK h m i k) ∧ Below w2.heap.size w2 wr)
        case atStart => exact ⟨0, rfl, by omega, rfl, hM1, hb1'⟩
        case round =>
         clear hM1 hb1'
         obtain ⟨k, rfl, hk, hgk, hM, hb⟩ := hrel
         by_cases hkl : k < ks.length
         ·
          have c1 := hM.head hil hil
          have c2 := hM.head hml hml
          have c3 := hM.get hil hkl
          have c4 := hM.get hil hml
          have c5 := hM.get hml hkl
          have hcx := hM.get hil hkl
          have hfx := (hM.row i hil).frozen k
          have e3 := HBh.out k i k
          have e4 := HBh.out k i m
          have e5 := HBh.out k m k
          have HM4 := Lib.hid ((hM.put hil k (max (fwK h m i k i k) (min (fwK h m i k i m) (fwK h m i k m k)))).below (Below.refl (wr.setCell ⟨bs i, k, none⟩ (.int .i64 (max (fwK h m i k i k) (min (fwK h m i k i m) (fwK h m i k m k))))).heap.size _).drew)
          have HB4 := Lib.hid (hb.setCell (p := ⟨bs i, k, none⟩) (by have := hM.rlow i hil; show w2.heap.size ≤ bs i; omega) (.int .i64 (max (fwK h m i k i k) (min (fwK h m i k i m) (fwK h m i k m k))))).drew
          have HNK : Hid (fwK h m i (k + 1) = updM (fwK h m i k) i k (max (fwK h m i k i k) (min (fwK h m i k i m) (fwK h m i k m k)))) := rfl
          rw [← HNK.out] at HM4
          obtain ⟨q, hq⟩ : ∃ q, q = fwK h m i (k + 1) := ⟨_, rfl⟩
          have Hq := Lib.hid hq
          rw [← hq] at HM4
          clear hM hb HNK hq
          generalize fwK h m i k i k = v3 at *
          generalize fwK h m i k i m = v4 at *
          generalize fwK h m i k m k = v5 at *
          generalize hmn : min v4 v5 = v6 at *
          generalize hmx : max v3 v6 = v7 at *
          have hi0 : (0 : Int) ≤ (i : Int) := by omega
          have hi2 : (i : Int) < (ks.length : Int) := by omega
          have hm0 : (0 : Int) ≤ (m : Int) := by omega
          have hm2 : (m : Int) < (ks.length : Int) := by omega
          have hk0 : (0 : Int) ≤ (k : Int) := by omega
          have hk2 : (k : Int) < (ks.length : Int) := by omega
          clear e3 e4 e5
          go_upto_region 29 with (fail)
          refine wp_regionF (S := (fun wx => wx.cell? ⟨B, i, none⟩ = some (.slice (some ⟨bs i, 0, none⟩) ks.length ks.length) ∧ wx.cell? ⟨B, m, none⟩ = some (.slice (some ⟨bs m, 0, none⟩) ks.length ks.length) ∧ wx.cell? ⟨bs i, k, none⟩ = some (.int .i64 v3) ∧ wx.cell? ⟨bs i, m, none⟩ = some (.int .i64 v4) ∧ wx.cell? ⟨bs m, k, none⟩ = some (.int .i64 v5))) 29 (by kernel_rfl) ?hS (fun hHeld => ?_)
          case hS => exact ⟨c1, c2, c3, c4, c5⟩
          refine rtakeF (i := 0) (d := (some 111)) (v := ?_) (n := 40) rfl (by kernel_rfl) (by kernel_rfl) (by kernel_rfl) (by kernel_rfl) (by kernel_rfl) (by kernel_rfl) (fun _ _ _ h => h) (by kernel_rfl) (by assumption) ?_ ?_
          rotate_left 1
          ·
           (intro wI hSI; (try dsimp only at hSI); go_simp; (try with_reducible rfl))
          simp only [Act.put, lsetA, lsetZ, lsetS]
          refine rtakeF (i := 1) (d := (some 112)) (v := ?_) (n := 40) rfl (by kernel_rfl) (by kernel_rfl) (by kernel_rfl) (by kernel_rfl) (by kernel_rfl) (by kernel_rfl) (fun _ _ _ h => h) (by kernel_rfl) (by assumption) ?_ ?_
          rotate_left 1
          ·
           (intro wI hSI; (try dsimp only at hSI); go_simp; (try with_reducible rfl))
          simp only [Act.put, lsetA, lsetZ, lsetS]
          refine rtakeF (i := 2) (d := (some 113)) (v := ?_) (n := 40) rfl (by kernel_rfl) (by kernel_rfl) (by kernel_rfl) (by kernel_rfl) (by kernel_rfl) (by kernel_rfl) (fun _ _ _ h => h) (by kernel_rfl) (by assumption) ?_ ?_
          rotate_left 1
          ·
           (intro wI hSI; (try dsimp only at hSI); go_simp; (try with_reducible rfl))
          simp only [Act.put, lsetA, lsetZ, lsetS]
          refine rtakeF (i := 3) (d := (some 114)) (v := ?_) (n := 40) rfl (by kernel_rfl) (by kernel_rfl) (by kernel_rfl) (by kernel_rfl) (by kernel_rfl) (by kernel_rfl) (fun _ _ _ h => h) (by kernel_rfl) (by assumption) ?_ ?_
          rotate_left 1
          ·
           (intro wI hSI; (try dsimp only at hSI); go_simp; (try with_reducible rfl))
          simp only [Act.put, lsetA, lsetZ, lsetS]
          refine rtakeF (i := 4) (d := (some 115)) (v := ?_) (n := 40) rfl (by kernel_rfl) (by kernel_rfl) (by kernel_rfl) (by kernel_rfl) (by kernel_rfl) (by kernel_rfl) (fun _ _ _ h => h) (by kernel_rfl) (by assumption) ?_ ?_
          rotate_left 1
          ·
           (intro wI hSI; (try dsimp only at hSI); go_simp; (try with_reducible rfl))
          simp only [Act.put, lsetA, lsetZ, lsetS]
          refine rtakeF (i := 5) (d := (some 116)) (v := ?_) (n := 40) rfl (by kernel_rfl) (by kernel_rfl) (by kernel_rfl) (by kernel_rfl) (by kernel_rfl) (by kernel_rfl) (fun _ _ _ h => h) (by kernel_rfl) (by assumption) ?_ ?_
          rotate_left 1
          ·
           (intro wI hSI; (try dsimp only at hSI); go_simp; (try with_reducible rfl))
          simp only [Act.put, lsetA, lsetZ, lsetS]
          refine rtakeF (i := 6) (d := (some 117)) (v := ?_) (n := 40) rfl (by kernel_rfl) (by kernel_rfl) (by kernel_rfl) (by kernel_rfl) (by kernel_rfl) (by kernel_rfl) (fun _ _ _ h => h) (by kernel_rfl) (by assumption) ?_ ?_
          rotate_left 1
          ·
           (intro wI hSI; (try dsimp only at hSI); go_simp; (try with_reducible rfl))
          simp only [Act.put, lsetA, lsetZ, lsetS]
          refine rtakeF (i := 7) (d := (some 118)) (v := ?_) (n := 40) rfl (by kernel_rfl) (by kernel_rfl) (by kernel_rfl) (by kernel_rfl) (by kernel_rfl) (by kernel_rfl) (fun _ _ _ h => h) (by kernel_rfl) (by assumption) ?_ ?_
          rotate_left 1
          ·
           (intro wI hSI; (try dsimp only at hSI); go_simp; (try with_reducible rfl))
          simp only [Act.put, lsetA, lsetZ, lsetS]
          refine rtakeF (i := 8) (d := (some 119)) (v := ?_) (n := 40) rfl (by kernel_rfl) (by kernel_rfl) (by kernel_rfl) (by kernel_rfl) (by kernel_rfl) (by kernel_rfl) (fun _ _ _ h => h) (by kernel_rfl) (by assumption) ?_ ?_
          rotate_left 1
          ·
           (intro wI hSI; (try dsimp only at hSI); go_simp; (try with_reducible rfl))
          simp only [Act.put, lsetA, lsetZ, lsetS]
          refine rtakeF (i := 9) (d := (some 120)) (v := ?_) (n := 40) rfl (by kernel_rfl) (by kernel_rfl) (by kernel_rfl) (by kernel_rfl) (by kernel_rfl) (by kernel_rfl) (fun _ _ _ h => h) (by kernel_rfl) (by assumption) ?_ ?_
          rotate_left 1
          ·
           (intro wI hSI; (try dsimp only at hSI); go_simp; (try with_reducible rfl))
          simp only [Act.put, lsetA, lsetZ, lsetS]
          refine rtakeF (i := 10) (d := (some 121)) (v := ?_) (n := 40) rfl (by kernel_rfl) (by kernel_rfl) (by kernel_rfl) (by kernel_rfl) (by kernel_rfl) (by kernel_rfl) (fun _ _ _ h => h) (by kernel_rfl) (by assumption) ?_ ?_
          rotate_left 1
          ·
           (intro wI hSI; (try dsimp only at hSI); go_simp; (try with_reducible rfl))
          simp only [Act.put, lsetA, lsetZ, lsetS]
          refine rtakeF (i := 11) (d := (some 122)) (v := ?_) (n := 40) rfl (by kernel_rfl) (by kernel_rfl) (by kernel_rfl) (by kernel_rfl) (by kernel_rfl) (by kernel_rfl) (fun _ _ _ h => h) (by kernel_rfl) (by assumption) ?_ ?_
          rotate_left 1
          ·
           (intro wI hSI; (try dsimp only at hSI); go_simp; (try with_reducible rfl))
          simp only [Act.put, lsetA, lsetZ, lsetS]
          refine rtakeF (i := 12) (d := (some 123)) (v := ?_) (n := 40) rfl (by kernel_rfl) (by kernel_rfl) (by kernel_rfl) (by kernel_rfl) (by kernel_rfl) (by kernel_rfl) (fun _ _ _ h => h) (by kernel_rfl) (by assumption) ?_ ?_
          rotate_left 1
          ·
           (intro wI hSI; (try dsimp only at hSI); go_simp; (try with_reducible rfl))
          simp only [Act.put, lsetA, lsetZ, lsetS]
          refine rtakeF (i := 13) (d := (some 124)) (v := ?_) (n := 40) rfl (by kernel_rfl) (by kernel_rfl) (by kernel_rfl) (by kernel_rfl) (by kernel_rfl) (by kernel_rfl) (fun _ _ _ h => h) (by kernel_rfl) (by assumption) ?_ ?_
          rotate_left 1
          ·
           (intro wI hSI; (try dsimp only at hSI); go_simp; (try with_reducible rfl))
          simp only [Act.put, lsetA, lsetZ, lsetS]
          refine rtakeF (i := 14) (d := (some 125)) (v := ?_) (n := 40) rfl (by kernel_rfl) (by kernel_rfl) (by kernel_rfl) (by kernel_rfl) (by kernel_rfl) (by kernel_rfl) (fun _ _ _ h => h) (by kernel_rfl) (by assumption) ?_ ?_
          rotate_left 1
          ·
           (intro wI hSI; (try dsimp only at hSI); go_simp; (try with_reducible rfl))
          simp only [Act.put, lsetA, lsetZ, lsetS]
          refine rtakeF (i := 15) (d := (some 126)) (v := ?_) (n := 40) rfl (by kernel_rfl) (by kernel_rfl) (by kernel_rfl) (by kernel_rfl) (by kernel_rfl) (by kernel_rfl) (fun _ _ _ h => h) (by kernel_rfl) (by assumption) ?_ ?_
          rotate_left 1
          ·
           (intro wI hSI; (try dsimp only at hSI); go_simp; (try with_reducible rfl))
          simp only [Act.put, lsetA, lsetZ, lsetS]
          refine rtakeF (i := 16) (d := (some 127)) (v := ?_) (n := 40) rfl (by kernel_rfl) (by kernel_rfl) (by kernel_rfl) (by kernel_rfl) (by kernel_rfl) (by kernel_rfl) (fun _ _ _ h => h) (by kernel_rfl) (by assumption) ?_ ?_
          rotate_left 1
          ·
           (intro wI hSI; (try dsimp only at hSI); go_simp; (try with_reducible rfl))
          simp only [Act.put, lsetA, lsetZ, lsetS]
          refine rtakeF (i := 17) (d := (some 128)) (v := ?_) (n := 40) rfl (by kernel_rfl) (by kernel_rfl) (by kernel_rfl) (by kernel_rfl) (by kernel_rfl) (by kernel_rfl) (fun _ _ _ h => h) (by kernel_rfl) (by assumption) ?_ ?_
          rotate_left 1
          ·
           (intro wI hSI; (try dsimp only at hSI); go_simp; (try with_reducible rfl))
          simp only [Act.put, lsetA, lsetZ, lsetS]
          refine rtakeF (i := 18) (d := (some 129)) (v := ?_) (n := 40) rfl (by kernel_rfl) (by kernel_rfl) (by kernel_rfl) (by kernel_rfl) (by kernel_rfl) (by kernel_rfl) (fun _ _ _ h => h) (by kernel_rfl) (by assumption) ?_ ?_
          rotate_left 1
          ·
           (intro wI hSI; (try dsimp only at hSI); go_simp; (try with_reducible rfl))
          simp only [Act.put, lsetA, lsetZ, lsetS]
          refine rtakeF (i := 19) (d := (some 130)) (v := ?_) (n := 40) rfl (by kernel_rfl) (by kernel_rfl) (by kernel_rfl) (by kernel_rfl) (by kernel_rfl) (by kernel_rfl) (fun _ _ _ h => h) (by kernel_rfl) (by assumption) ?_ ?_
          rotate_left 1
          ·
           (intro wI hSI; (try dsimp only at hSI); go_simp; (try with_reducible rfl))
          simp only [Act.put, lsetA, lsetZ, lsetS]
          refine rtakeF (i := 20) (d := (some 131)) (v := ?_) (n := 40) rfl (by kernel_rfl) (by kernel_rfl) (by kernel_rfl) (by kernel_rfl) (by kernel_rfl) (by kernel_rfl) (fun _ _ _ h => h) (by kernel_rfl) (by assumption) ?_ ?_
          rotate_left 1
          ·
           (intro wI hSI; (try dsimp only at hSI); go_simp; (try with_reducible rfl))
          simp only [Act.put, lsetA, lsetZ, lsetS]
          refine rtakeF (i := 21) (d := (some 132)) (v := ?_) (n := 40) rfl (by kernel_rfl) (by kernel_rfl) (by kernel_rfl) (by kernel_rfl) (by kernel_rfl) (by kernel_rfl) (fun _ _ _ h => h) (by kernel_rfl) (by assumption) ?_ ?_
          rotate_left 1
          ·
           (intro wI hSI; (try dsimp only at hSI); go_simp; (try with_reducible rfl))
          simp only [Act.put, lsetA, lsetZ, lsetS]
          refine rtakeF (i := 22) (d := (some 133)) (v := ?_) (n := 40) rfl (by kernel_rfl) (by kernel_rfl) (by kernel_rfl) (by kernel_rfl) (by kernel_rfl) (by kernel_rfl) (fun _ _ _ h => h) (by kernel_rfl) (by assumption) ?_ ?_
          rotate_left 1
          ·
           (intro wI hSI; (try dsimp only at hSI); go_simp; (try with_reducible rfl))
          simp only [Act.put, lsetA, lsetZ, lsetS]
          refine rtakeF (i := 23) (d := (some 134)) (v := ?_) (n := 40) rfl (by kernel_rfl) (by kernel_rfl) (by kernel_rfl) (by kernel_rfl) (by kernel_rfl) (by kernel_rfl) (fun _ _ _ h => h) (by kernel_rfl) (by assumption) ?_ ?_
          rotate_left 1
          ·
           (intro wI hSI; (try dsimp only at hSI); go_simp; (try with_reducible rfl))
          simp only [Act.put, lsetA, lsetZ, lsetS]
          refine rtakeF (i := 24) (d := (some 135)) (v := ?_) (n := 40) rfl (by kernel_rfl) (by kernel_rfl) (by kernel_rfl) (by kernel_rfl) (by kernel_rfl) (by kernel_rfl) (fun _ _ _ h => h) (by kernel_rfl) (by assumption) ?_ ?_
          rotate_left 1
          ·
           (intro wI hSI; (try dsimp only at hSI); go_simp; (try with_reducible rfl))
          simp only [Act.put, lsetA, lsetZ, lsetS]
          refine rtakeF (i := 25) (d := (some 136)) (v := ?_) (n := 40) rfl (by kernel_rfl) (by kernel_rfl) (by kernel_rfl) (by kernel_rfl) (by kernel_rfl) (by kernel_rfl) (fun _ _ _ h => h) (by kernel_rfl) (by assumption) ?_ ?_
          rotate_left 1
          ·
           (intro wI hSI; (try dsimp only at hSI); go_simp; (try with_reducible rfl))
          simp only [Act.put, lsetA, lsetZ, lsetS]
          refine rtakeF (i := 26) (d := (some 137)) (v := ?_) (n := 40) rfl (by kernel_rfl) (by kernel_rfl) (by kernel_rfl) (by kernel_rfl) (by kernel_rfl) (by kernel_rfl) (fun _ _ _ h => h) (by kernel_rfl) (by assumption) ?_ ?_
          rotate_left 1
          ·
           (intro wI hSI; (try dsimp only at hSI); go_simp; (try with_reducible rfl))
          simp only [Act.put, lsetA, lsetZ, lsetS]
          refine rtakeF (i := 27) (d := (some 138)) (v := ?_) (n := 40) rfl (by kernel_rfl) (by kernel_rfl) (by kernel_rfl) (by kernel_rfl) (by kernel_rfl) (by kernel_rfl) (fun _ _ _ h => h) (by kernel_rfl) (by assumption) ?_ ?_
          rotate_left 1
          ·
           (intro wI hSI; (try dsimp only at hSI); go_simp; (try with_reducible rfl))
          simp only [Act.put, lsetA, lsetZ, lsetS]
          refine rtakeF (i := 28) (d := (some 139)) (v := ?_) (n := 40) rfl (by kernel_rfl) (by kernel_rfl) (by kernel_rfl) (by kernel_rfl) (by kernel_rfl) (by kernel_rfl) (fun _ _ _ h => h) (by kernel_rfl) (by assumption) ?_ ?_
          rotate_left 1
          ·
           (intro wI hSI; (try dsimp only at hSI); go_simp; (try with_reducible rfl))
          simp only [Act.put, lsetA, lsetZ, lsetS]
          refine rcallF (i := 29) (d := none) (by kernel_rfl) rfl (by kernel_rfl) (fun K hK => ?_)
          go_simp
          refine hK.out undef _ (.inl rfl) (fun _ => ?_)
          clear hK K
          simp only [Act.put, lsetA, lsetZ, lsetS]
          refine wpAnyF_done (by kernel_rfl) ?_ _
          clear c1 c2 c3 c4 c5 hcx hfx hmn hmx
          generalize (wr.setCell ⟨bs i, k, none⟩ (.int .i64 v7)).drew = wF at *
          go_wp2_with fail
          go_roundg (ks.length - (k + 1))
          case measure => have := hgk.out; omega
          case rel => exact ⟨k + 1, by go_num, by omega, rfl, by rw [← Hq.out]; exact HM4.out, HB4.out⟩
         ·
          obtain rfl : k = ks.length := by omega
          rw [← HNI.out] at hM
          have HM4 := Lib.hid hM
          have HB4 := Lib.hid hb
          clear hM hb
          go_wp2_with fail
          go_roundg (ks.length - (i + 1))
          case measure => have := hgi.out; omega
          case rel => exact ⟨i + 1, by go_num, by omega, rfl, HM4.out, HB4.out⟩
       ·
        obtain rfl : i = ks.length := by omega
        rw [← HNX.out] at hM
        have HM4 := Lib.hid hM
        have HB4 := Lib.hid hb
        clear hM hb
        go_wp2_with fail
        go_roundg (ks.length - (m + 1))
        case measure => have := hgm.out; omega
        case rel => exact ⟨m + 1, by go_num, by omega, rfl, HM4.out, HB4.out⟩
     ·
      obtain rfl : m = ks.length := by omega
      have HMW := Lib.hid hM
      have hbW := hb
      have HF : Hid (wayI l ks = fwM E ks.length ks.length) := HFW
      generalize fwM E ks.length ks.length = f at *
      rw [HF.out] at HL
      clear hM hb HBD hgm hm hml HF
      have hmm := @run_makeMap Tryz.prog
      go_upto_region 34 with (fail)
      clear hmm
      have hI0 := (MI.new wr).alloc (.cells #[.map (some wr.heap.size)] 67)
      have hV0 := Box.newAt (wr.alloc (.map #[] 0)) (wr.heap.size + 1) 67 #[.map (some wr.heap.size)] (by simp)
      have hb5 : Below wr.heap.size wr ((wr.alloc (.map #[] 0)).alloc (.cells #[.map (some wr.heap.size)] 67)) := ((Below.refl _ _).alloc (Nat.le_refl _) _).alloc (by simp) _
      generalize (wr.alloc (.map #[] 0)).alloc (.cells #[.map (some wr.heap.size)] 67) = w5 at *
      obtain ⟨w6, hw6⟩ : ∃ w6, w6 = wr := ⟨_, rfl⟩
      rw [← hw6] at hbW HMW hI0 hV0 hb5
      rw [← hw6]
      clear hw6
      obtain ⟨mb, hmb⟩ : ∃ mb, mb = w6.heap.size := ⟨_, rfl⟩
      have hmb1 : w6.heap.size ≤ mb := by omega
      rw [← hmb] at hI0 hV0
      rw [← hmb]
      clear hmb
      obtain ⟨bV, hbV⟩ : ∃ bV, bV = mb + 1 := ⟨_, rfl⟩
      have hbV1 : bV ≠ mb := by omega
      have hbV2 : mb < bV := by omega
      rw [← hbV] at hV0
      rw [← hbV]
      clear hbV
      rw [← strW_zero ks f] at hI0
      have hb25 := below_next hbW hb5
      have ht0 := (HTK.out _ hb25).2.1
      go_wp2_with fail
      clear ht0
      go_loopg [149] ks.length (fun gk iv wr => ∃ i : Nat, iv = .int .i64 i ∧ i ≤ ks.length ∧ Hid (gk = ks.length - i) ∧ MI wr mb (strW ks f i 0) ∧ Box wr bV 67 #[.map (some mb)] ∧ Below w6.heap.size w6 wr)
      case atStart => exact ⟨0, rfl, by omega, rfl, hI0, hV0, hb5⟩
      case round =>
       clear hI0 hV0 hb5 hb25
       obtain ⟨i, rfl, hi, hgi, hI, hV, hb⟩ := hrel
       have hb2w := below_next hbW hb
       by_cases hil : i < ks.length
       ·
        obtain ⟨pb, po, hpa, e0⟩ := (HTK.out _ hb2w).1.str hil
        have Hpa := Lib.hid hpa
        rw [hpa]
        clear hpa
        have Hstp := Lib.hid (fun k => strW_step Hnd.out f (i := i) (k := k) hil)
        have Hnx := Lib.hid (strW_next ks f i)
        generalize ks[i] = p at *
        have hi0 : (0 : Int) ≤ (i : Int) := by omega
        have hi2 : (i : Int) < (ks.length : Int) := by omega
        go_wp2_with fail
        clear e0
        go_loopg [155] ks.length (fun gk kv wr => ∃ k : Nat, kv = .int .i64 k ∧ k ≤ ks.length ∧ Hid (gk = ks.length - k) ∧ MI wr mb (strW ks f i k) ∧ Box wr bV 67 #[.map (some mb)] ∧ Below w6.heap.size w6 wr)
        case atStart => exact ⟨0, rfl, by omega, rfl, hI, hV, hb⟩
        case round =>
         clear hI hV hb hb2w
         obtain ⟨k, rfl, hk, hgk, hI, hV, hb⟩ := hrel
         by_cases hkl : k < ks.length
         ·
          have hM := HMW.out.below hb
          have c1 := hM.head hil hil
          have c2 := hM.head hkl hkl
          have c3 := hM.get hil hkl
          have c4 := hM.get hkl hil
          have hst := Hstp.out k
          have hk0 : (0 : Int) ≤ (k : Int) := by omega
          have hk2 : (k : Int) < (ks.length : Int) := by omega
          clear hM
          by_cases hxy : f k i < f i k
          ·
           rw [if_pos hxy] at hst
           have Hst := Lib.hid hst
           have hbd := strW_bd ks f (i := i) hk p
           generalize f k i = y at *
           generalize f i k = x at *
           have hd : decide (y < x) = true := decide_eq_true hxy
           clear hst hxy
           go_upto_region 40 with (fail)
           go_quiet (fail)
           have hbd2 : Below wr.heap.size wr (wr.drewN nq) := below_drewN (Below.refl _ _) nq
           have hI2 := hI.below hbd2
           have hV2 := hV.below hbd2
           have hb2 := below_next hb hbd2
           clear c1 c2 c3 c4 hI hV hb hbd2
           generalize wr.drewN nq = wd at *
           have hlk := hI2.look p
           have hwr : IntKind.i64.wrap (strW ks f i k p + 1) = strW ks f i k p + 1 := IntWalk.i64_in _ (by omega)
           have hv0 := hV2.cell 0
           simp at hv0
           generalize hsv : strW ks f i k p = sv at *
           have Hsv := Lib.hid hsv
           clear hsv
           go_wp2_with (at_mapUpdate; refine wpList_store_int rfl _ _ _ rfl mb _ rfl hI2 p rfl (sv + 1) rfl ?_; intro w7 hI7 hg7 hs7)
           have hV7 := hV2.grown hg7 (fun e => hbV1 (Option.some.inj e))
           have hb7 := hb2.grown hg7 hb2.size (fun j hj => by have := Option.some.inj hj; omega)
           rw [← Hst.out] at hI7
           clear hI2 hV2 hb2 hlk hv0 hg7 hs7
           (try go_wp2_with fail)
           go_roundg (ks.length - (k + 1))
           case measure => have := hgk.out; omega
           case rel => exact ⟨k + 1, by go_num, by omega, rfl, hI7, hV7, hb7⟩
          ·
           rw [if_neg hxy] at hst
           have Hst := Lib.hid hst
           generalize f k i = y at *
           generalize f i k = x at *
           have hd : decide (y < x) = false := decide_eq_false hxy
           clear hst hxy
           go_upto_region 40 with (fail)
           go_quiet (fail)
           have hbd2 : Below wr.heap.size wr (wr.drewN nq) := below_drewN (Below.refl _ _) nq
           have hI2 := hI.below hbd2
           have hV2 := hV.below hbd2
           have hb2 := below_next hb hbd2
           clear c1 c2 c3 c4 hI hV hb hbd2
           generalize wr.drewN nq = wd at *
           go_wp2_with fail
           go_roundg (ks.length - (k + 1))
           case measure => have := hgk.out; omega
           case rel => exact ⟨k + 1, by go_num, by omega, rfl, by rw [Hst.out]; exact hI2, hV2, hb2⟩
         ·
          obtain rfl : k = ks.length := by omega
          rw [Hnx.out] at hI
          go_wp2_with fail
          rw [← Hpa.out]
          go_roundg (ks.length - (i + 1))
          case measure => have := hgi.out; omega
          case rel => exact ⟨i + 1, by go_num, by omega, rfl, hI, hV, hb⟩
       ·
        obtain rfl : i = ks.length := by omega
        have ht0 := (HTK.out _ hb2w).2.1
        have hsk := (HTK.out _ hb2w).1
        have HCL := Lib.hid (clone_any ks aK capK wr hsk (by omega))
        clear hgi hil hi hsk
        go_wp2_with fail
        clear ht0
        refine HCL.out.mono ?_
        rintro e w7 ⟨vk, rfl, hownk, hb7⟩
        have hvk := hownk.lt
        have hI7 := hI.below hb7
        have hV7 := hV.below hb7
        have hbw7 := below_next hb02 (below_next hbW (below_next hb hb7))
        have hIl := hI.lt
        have hVl := hV.lt
        generalize hC : strW ks f ks.length 0 = C at *
        have hcmp : ∀ gs, vk.ownBlock = some gs → CmpAt 27 #[.pointer (some ⟨bV, 0, none⟩)] (cmpC C) ks gs w7 := fun gs hgs W x y hx hy hkp => by
         have hg := hvk gs hgs
         exact stClo_any bV mb C x y W ((hV7.kp hkp (by omega)).cell 0) (hI7.same (hkp.block _ hI7.lt (by omega)))
        have HSS := Lib.hid (sortStable_any wr.heap.size ks vk 27 #[.pointer (some ⟨bV, 0, none⟩)] (cmpC C) w7 (enters_of Tryz.func27 (by kernel_rfl) rfl) hcmp hownk hkn)
        rw [← HL.out] at HSS
        have Hvk := Lib.hid hvk
        have hzw : w.heap.size ≤ wr.heap.size := (below_next hb02 (below_next hbW hb)).size
        clear hcmp hownk hI7 hV7 hI hV hb hb7 hvk HCL
        go_wp2_with fail
        refine HSS.out.mono ?_
        rintro e w8 ⟨rfl, hown8, hk8⟩
        have hb8 : Below w.heap.size w w8 := belowKp hbw7 hk8 (fun k hk => by have := (Hvk.out k hk).1; omega) hbw7.size
        obtain ⟨ao, capo, rfl, hsao, _, _⟩ := hown8.sa
        go_wp2_with fail
        go_ret2
        exact ⟨hb8, ao, out.length, capo, by first | rfl | (rw [H0.out] <;> rfl), by omega, fun _ => ⟨rfl, hsao⟩⟩
end Go.Proofs.YtcjcdbhobehlpaaGreatDoor
