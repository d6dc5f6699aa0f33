/- For every list of raw numbers, AgendasFound returns true. The walk. -/
import Derived.Test.YtaecdhdnjmckpaaGreatDoorMakeProg2
import Derived.Test.YtaecdhdnjmckpaaGreatDoorAgd3
import Derived.Test.YtaecdhdnjmckpaaGreatDoorAgd4
import Derived.Test.YtaecdhdnjmckpaaGreatDoorCost0
namespace Go.Proofs.YtaecdhdnjmckpaaGreatDoor.agendasFound
open Go.RowKit
set_option linter.unusedVariables false
set_option linter.unusedSimpArgs false

set_option maxHeartbeats 400000 in
theorem oneH_any (S : Nat) (B : Int) (b n cap T : Nat) (vs : Array Value) (Pr : ByteArray → Prop) (w : World) (hs : Strm S B w) (hB : B ≤ 1000000000) (hbox : Box w b T vs) (hbS : b ≠ S) (hn : vs.size = n) (hl1 : 1 ≤ n) (hl2 : n ≤ 1000)
    (hc : ∀ v ∈ vs.toList, ∃ s : ByteArray, v = .string s ∧ Pr s) :
    Calls Tryz.prog 39 #[.pointer (some ⟨S, 0, none⟩), .slice (some ⟨b, 0, none⟩) n cap] w (fun e w' => ∃ x : ByteArray, Pr x ∧ e = .returned (.string x) ∧ Stp S w w' ∧ Strm S (B + 1) w') := by
  have Hc := Lib.hid hc
  clear hc
  go_enter Tryz.func39, Tryz.ntmps39
  go_wp2_with fail
  refine (next_any S B _ _ hs hB (by omega) (by omega)).mono ?_
  rintro e w' ⟨r, ⟨hr, hr2⟩, rfl, h1, h2⟩
  obtain ⟨i, rfl⟩ := Int.eq_ofNat_of_zero_le hr
  have hi : i < n := by omega
  obtain ⟨s, hs1, hs2⟩ := Hc.out vs[i] (by simp)
  have hc : w'.cell? ⟨b, i, none⟩ = some (.string s) := by rw [(hbox.stp h1 hbS).cell i, Array.getElem?_eq_getElem (by omega), hs1]
  have Hs2 := Lib.hid hs2
  clear hs1 hs2
  go_wp2_with fail
  go_ret
  exact ⟨_, Hs2.out, rfl, h1, h2⟩
theorem oneP_any (S : Nat) (B : Int) (b n cap T : Nat) (vs : Array Value) (Pr : ByteArray → Prop) (w : World) (hs : Strm S B w) (hB : B ≤ 1000000000) (hbox : Box w b T vs) (hbS : b ≠ S) (hn : vs.size = n) (hl1 : 1 ≤ n) (hl2 : n ≤ 1000)
    (hc : ∀ v ∈ vs.toList, ∃ s : ByteArray, v = .string s ∧ Pr s) :
    Calls Tryz.prog 13 #[.pointer (some ⟨S, 0, none⟩), .slice (some ⟨b, 0, none⟩) n cap] w (fun e w' => ∃ x : ByteArray, Pr x ∧ e = .returned (.string x) ∧ Stp S w w' ∧ Strm S (B + 1) w') := by
  have HO := Lib.hid (oneH_any S B b n cap T vs Pr w hs hB hbox hbS hn hl1 hl2 hc)
  clear hs hbox hc
  go_enter Tryz.func13, Tryz.ntmps13
  go_wp2_with fail
  refine HO.out.mono ?_
  rintro e w1 ⟨x, hx, rfl, h1, s1⟩
  have Hx := Lib.hid hx
  clear hx
  go_wp2_with fail
  go_ret
  exact ⟨x, Hx.out, rfl, h1, s1⟩
/-- What is said of an agenda. -/
def AgdSpec (g : Grd) (p : List Ses) (who : ByteArray) (F : List ByteArray → List ByteArray) (er : Int) (l : List ByteArray) (ks : List (ByteArray × ByteArray × List ByteArray)) : Prop :=
  (wishOf g who < 0 ∧ er = 8 ∧ l = [] ∧ ks = []) ∨ ∃ (k : Nat) (hk : k < g.wishes.length), wishOf g who = (k : Nat) ∧
    ((14 < (someL g.wishes[k].papers p).length ∧ er = 2 ∧ l = [] ∧ ks = []) ∨
     ((someL g.wishes[k].papers p).length ≤ 14 ∧ er = 0 ∧ l = F g.wishes[k].papers ∧ ks.map some = (agdBest g p g.wishes[k].papers).map (fun i => p[i]?.map keyOf3)))
theorem some_inj {α : Type} : ∀ {a b : List α}, a.map some = b.map some → a = b
  | [], [], _ => rfl
  | [], _ :: _, h => by simp at h
  | _ :: _, [], h => by simp at h
  | x :: r, y :: s, h => by
    simp only [List.map_cons, List.cons.injEq, Option.some.injEq] at h
    rw [h.1, some_inj h.2]
theorem agd_uniq {g : Grd} {p : List Ses} {who : ByteArray} {F G : List ByteArray → List ByteArray} {e1 e2 : Int} {l1 l2 : List ByteArray} {k1 k2 : List (ByteArray × ByteArray × List ByteArray)}
    (h1 : AgdSpec g p who F e1 l1 k1) (h2 : AgdSpec g p who G e2 l2 k2) (hFG : ∀ k (hk : k < g.wishes.length), F g.wishes[k].papers = G g.wishes[k].papers) : e1 = e2 ∧ l1 = l2 ∧ k1 = k2 := by
  rcases h1 with ⟨a0, a1, a2, a3⟩ | ⟨k, hk, a0, a1⟩ <;> rcases h2 with ⟨b0, b1, b2, b3⟩ | ⟨m, hm, b0, b1⟩
  · exact ⟨a1.trans b1.symm, a2.trans b2.symm, a3.trans b3.symm⟩
  · omega
  · omega
  · obtain rfl : k = m := by omega
    rcases a1 with ⟨c0, c1, c2, c3⟩ | ⟨c0, c1, c2, c3⟩ <;> rcases b1 with ⟨d0, d1, d2, d3⟩ | ⟨d0, d1, d2, d3⟩
    · exact ⟨c1.trans d1.symm, c2.trans d2.symm, c3.trans d3.symm⟩
    · omega
    · omega
    · exact ⟨c1.trans d1.symm, c2.trans ((hFG k hk).trans d2.symm), some_inj (c3.trans d3.symm)⟩
theorem best_len (g : Grd) (p : List Ses) (wish : List ByteArray) : (agdBest g p wish).length ≤ (someL wish p).length := bestSet_len _
theorem agd_form {g : Grd} {p : List Ses} {who : ByteArray} {F : List ByteArray → List ByteArray} {w w' : World} {e : Ending} (h : AgdRes g p who F w e w') (hpo : ∀ s ∈ p, s.papers.length ≤ 1000) :
    Below w.heap.size w w' ∧ ∃ (er : Int) (l : List ByteArray) (ls : List Ses) (a b : Option Addr) (c d : Nat), e = .returned (.tuple #[.slice a l.length c, .slice b ls.length d, .int .i64 er]) ∧ SA w' a l ∧ SA w' b ls ∧ (∀ x ∈ ls, SA w' x.a1 x.papers ∧ x.papers.length ≤ 1000000) ∧ ls.length ≤ 14 ∧ AgdSpec g p who F er l (ls.map keyOf3) := by
  obtain ⟨hb, h⟩ := h
  refine ⟨hb, ?_⟩
  rcases h with ⟨h0, rfl⟩ | ⟨k, hk, h0, ⟨h1, rfl⟩ | ⟨h1, vA, vB, ls, rfl, hA, hB, hm⟩⟩
  · exact ⟨8, [], [], none, none, 0, 0, rfl, SA.nil _ _, SA.nil _ _, fun x hx => (List.not_mem_nil hx).elim, by decide, .inl ⟨h0, rfl, rfl, rfl⟩⟩
  · exact ⟨2, [], [], none, none, 0, 0, rfl, SA.nil _ _, SA.nil _ _, fun x hx => (List.not_mem_nil hx).elim, by decide, .inr ⟨k, hk, h0, .inl ⟨h1, rfl, rfl, rfl⟩⟩⟩
  · obtain ⟨a, c, rfl, hsa, -, -⟩ := hA.form
    obtain ⟨b, d, rfl, hsb, -, -⟩ := hB.1.form
    have hl : ls.length ≤ 14 := by
      have h2 := congrArg List.length hm
      rw [List.length_map, List.length_map] at h2
      have := best_len g p g.wishes[k].papers
      omega
    refine ⟨0, _, ls, a, b, c, d, rfl, hsa, hsb, fun x hx => ⟨hB.rd x hx, ?_⟩, hl, .inr ⟨k, hk, h0, .inr ⟨h1, rfl, rfl, by rw [List.map_map]; exact hm⟩⟩⟩
    have h3 : some (keyOf3 x) ∈ ls.map (fun s => some (keyOf3 s)) := List.mem_map.2 ⟨x, hx, rfl⟩
    rw [hm] at h3
    obtain ⟨i, -, hi⟩ := List.mem_map.1 h3
    cases e : p[i]? with
    | none => rw [e] at hi; cases hi
    | some s =>
      rw [e] at hi
      have h4 : keyOf3 s = keyOf3 x := Option.some.inj hi
      have h5 : s.papers = x.papers := congrArg (fun q => q.2.2) h4
      have := hpo s (List.mem_of_getElem? e)
      rw [← h5]; omega
theorem agd_same {g : Grd} {p : List Ses} (h : bothF g p = 0) (k : Nat) (hk : k < g.wishes.length) : (fun wish => sortS (papP p wish (agdBest g p wish))) g.wishes[k].papers = papR g p g.wishes[k].papers := by
  have hform := form_of (both_ok h).2
  refine pap_same hform (wish_nd (both_ok h).1 (List.getElem_mem hk)) ?_ ?_
  · exact ((bestSet_sub _).nodup (((someL_sorted _ p).imp (fun h => Nat.ne_of_lt h))))
  · exact fun i hi => someL_lt (bestSet_mem _ i hi)
theorem agd_len {g : Grd} {p : List Ses} {who : ByteArray} {er : Int} {l : List ByteArray} {ks : List (ByteArray × ByteArray × List ByteArray)} (hz : GSm g) (h : AgdSpec g p who (fun wish => sortS (papP p wish (agdBest g p wish))) er l ks) : l.length ≤ 1000000 := by
  rcases h with ⟨-, -, rfl, -⟩ | ⟨k, hk, -, ⟨-, -, rfl, -⟩ | ⟨h1, -, rfl, -⟩⟩
  · exact Nat.zero_le _
  · exact Nat.zero_le _
  · simp only
    rw [sortS_length]
    have h2 := wlf_len p g.wishes[k].papers (agdBest g p g.wishes[k].papers)
    have h3 := best_len g p g.wishes[k].papers
    have h4 := (hz.wish _ (List.getElem_mem hk)).2.1
    have h5 : g.wishes[k].papers.length * (agdBest g p g.wishes[k].papers).length ≤ 1000 * 14 := Nat.mul_le_mul h4 (by omega)
    unfold papP
    omega
set_option maxRecDepth 100000 in
set_option maxHeartbeats 8000000 in
theorem walk (a0 : Option Addr) (len0 cap0 : Nat) (z0 : List Int) (w : World) (w0 : IsRow .i64 w a0 len0 cap0 z0) :
    Calls Tryz.prog 5 #[.slice a0 len0 cap0] w fun e w' => e = .returned (.bool true) ∧ Below w.heap.size w w' := by
  have hs := strm_new w0
  go_enter Tryz.func5, Tryz.ntmps5
  go_wp2_with fail
  refine (grid_any w.heap.size 0 7 3 4 _ hs (by omega) (by omega) (by omega) (by omega)).mono ?_
  rintro e w1 ⟨gb, vr, vs, vt, vw, vb, lr, ls, lt, lw, lb, rfl, hGW, hn, hr1, hs1, ht1, hw1, hb1, h1, s1⟩
  obtain ⟨g, rfl, rfl, rfl, rfl, rfl, hz, hnt, -, -, hwl, hext, HGS⟩ := hGW.grdS hn hr1 hs1 ht1 hw1 hb1
  have HG := Lib.hid HGS
  have hz1 := h1.size
  simp at hz1
  have hst1 := ((Stp.refl w.heap.size w).alloc (.cells #[.slice a0 len0 cap0, .int .i64 0] 25)).trans h1
  clear hGW hn hr1 hs1 ht1 hw1 hb1 w0 hs h1 HGS
  go_upto_region 3 with (fail)
  have hBx := Box.new w1 32 #[.slice g.ra g.rooms.length g.rc, .slice g.sa g.slots.length g.sc, .slice g.ta g.talks.length g.tc, .slice g.wa g.wishes.length g.wc, .slice g.ba g.bans.length g.bc]
  have s2 := s1.alloc (.cells #[.slice g.ra g.rooms.length g.rc, .slice g.sa g.slots.length g.sc, .slice g.ta g.talks.length g.tc, .slice g.wa g.wishes.length g.wc, .slice g.ba g.bans.length g.bc] 32)
  have hst2 := hst1.alloc (.cells #[.slice g.ra g.rooms.length g.rc, .slice g.sa g.slots.length g.sc, .slice g.ta g.talks.length g.tc, .slice g.wa g.wishes.length g.wc, .slice g.ba g.bans.length g.bc] 32)
  have HG2 : Hid (∀ W : World, (∀ k, k < (w1.alloc (.cells #[.slice g.ra g.rooms.length g.rc, .slice g.sa g.slots.length g.sc, .slice g.ta g.talks.length g.tc, .slice g.wa g.wishes.length g.wc, .slice g.ba g.bans.length g.bc] 32)).heap.size → k ≠ w.heap.size → W.heap[k]? = (w1.alloc (.cells #[.slice g.ra g.rooms.length g.rc, .slice g.sa g.slots.length g.sc, .slice g.ta g.talks.length g.tc, .slice g.wa g.wishes.length g.wc, .slice g.ba g.bans.length g.bc] 32)).heap[k]?) → GRd W g) := fun W hW => HG.out W (fun k hk1 hk2 => by
    simp at hk1
    rw [hW k (by simp; omega) (by omega), Below.heap_alloc _ _ _ hk2])
  have hzz : (w1.alloc (.cells #[.slice g.ra g.rooms.length g.rc, .slice g.sa g.slots.length g.sc, .slice g.ta g.talks.length g.tc, .slice g.wa g.wishes.length g.wc, .slice g.ba g.bans.length g.bc] 32)).heap.size = w1.heap.size + 1 := by simp
  clear hst1 s1 HG
  generalize w1.alloc (.cells #[.slice g.ra g.rooms.length g.rc, .slice g.sa g.slots.length g.sc, .slice g.ta g.talks.length g.tc, .slice g.wa g.wishes.length g.wc, .slice g.ba g.bans.length g.bc] 32) = w2 at *
  generalize w1.heap.size = n1 at *
  have HPG := Lib.hid (programme_any w.heap.size _ g w2 s2 (by omega) HG2.out hz (by omega))
  rw [Grd.agg_eq] at HPG
  have hBx_l := hBx.lt; have hBx_0 := hBx.cell 0; have hBx_1 := hBx.cell 1; have hBx_2 := hBx.cell 2; have hBx_3 := hBx.cell 3; have hBx_4 := hBx.cell 4; simp at hBx_0 hBx_1 hBx_2 hBx_3 hBx_4
  go_wp2_with fail
  clear hBx_l hBx_0 hBx_1 hBx_2 hBx_3 hBx_4
  refine HPG.out.mono ?_
  rintro e w3 ⟨pa, pc, p, rfl, HPR, hpc, hpl, hpn0, h3, s3⟩
  have hpn := fun s hs => (hpn0 s hs).1
  have hcaps := Lib.hid (fun s hs => (hpn0 s hs).2)
  clear hpn0
  have hz3 := h3.size
  have hBx3 := hBx.stp h3 (by omega)
  have hst3 := hst2.trans h3
  have H23 : Hid (∀ k, k < w2.heap.size → k ≠ w.heap.size → w3.heap[k]? = w2.heap[k]?) := fun k hk hkS => h3.block k hk hkS
  have HP3 : Hid (∀ W : World, Stp w.heap.size w3 W → PRg W pa p) := HPR
  have hsesok : ∀ s ∈ p, SesOk s := fun s hs => ⟨(hpn s hs).1, (hpn s hs).2.1, by have := (hpn s hs).2.2.1; omega, (hpn s hs).2.2.2⟩
  clear hst2 s2 HPG h3 HPR hBx hpn
  have hSw3 := s3.lt
  go_wp2_with fail
  refine (oneP_any w.heap.size _ w3.heap.size 4 4 9 _ (fun _ => True) _ (s3.alloc _) (by omega) (Box.new _ _ _) (by omega) rfl (by omega) (by omega) (by simp)).mono ?_
  rintro e w4 ⟨who, -, rfl, h4', -⟩
  have h4 := ((Stp.refl w.heap.size w3).alloc (.cells #[.string ⟨#[119, 105, 108]⟩, .string ⟨#[120, 97, 110]⟩, .string ⟨#[121, 117, 108]⟩, .string ⟨#[97, 110, 110]⟩] 9)).trans h4'
  have hst4 := hst3.trans h4
  have hb6 : Below w.heap.size w w4 := by have := hst4.below; rwa [Nat.min_self] at this
  have hz4 := h4.size
  have HG6 : Hid (∀ W : World, Below w4.heap.size w4 W → GRd W g) := fun W hW => HG2.out W (fun k hk hkS => by rw [hW.block k (by omega), h4.block k (by omega) hkS]; exact H23.out k hk hkS)
  have HP6 : Hid (∀ W : World, Below w4.heap.size w4 W → PRg W pa p) := fun W hW => HP3.out W (h4.trans (Stp.of_below hW))
  have hBx4 := hBx3.stp h4 (by omega)
  clear hst3 s3 HG2 H23 HP3 hcaps h4 h4' hBx3 hst4 hext hwl
  have hp1 : p.length ≤ 1000 := by omega
  have hpo : ∀ s ∈ p, s.papers.length ≤ 1000 := fun s hs => (hsesok s hs).2.2.1
  have HAG := Lib.hid (fun W (h : Below w4.heap.size w4 W) => agendaP_any g p pa pc who W (HG6.out W h) hz (HP6.out W h) hp1 hsesok hpc)
  have HBO := Lib.hid (fun W (h : Below w4.heap.size w4 W) => both_any g p pa pc W (HG6.out W h) hz (HP6.out W h) (by omega) hsesok hpc)
  have HAO := Lib.hid (fun W (h : Below w4.heap.size w4 W) => agendaOf_any g p pa pc who W (HG6.out W h) hz (HP6.out W h) hp1 hpo)
  have HPR := Lib.hid (fun W => programs_any W)
  have HF1 := Lib.hid (fun W W' e (h : AgdRes g p who (fun wish => sortS (papP p wish (agdBest g p wish))) W e W') => agd_form h hpo)
  have HF2 := Lib.hid (fun W W' e (h : AgdRes g p who (papR g p) W e W') => agd_form h hpo)
  have HUN := Lib.hid (fun e1 e2 l1 l2 k1 k2 (h0 : bothF g p = 0) h1 h2 => agd_uniq (g := g) (p := p) (who := who) (F := fun wish => sortS (papP p wish (agdBest g p wish))) (G := papR g p) (e1 := e1) (e2 := e2) (l1 := l1) (l2 := l2) (k1 := k1) (k2 := k2) h1 h2 (fun k hk => agd_same h0 k hk))
  have HLN := Lib.hid (fun er l ks h => agd_len (p := p) (who := who) (er := er) (l := l) (ks := ks) hz h)
  rw [Grd.agg_eq] at HAG HBO HAO
  unfold AgdPRes at HAG
  clear HG6 HP6 hz hsesok hpo
  generalize bothF g p = B at *
  have hBx4_l := hBx4.lt; have hBx4_0 := hBx4.cell 0; have hBx4_1 := hBx4.cell 1; have hBx4_2 := hBx4.cell 2; have hBx4_3 := hBx4.cell 3; have hBx4_4 := hBx4.cell 4; simp at hBx4_0 hBx4_1 hBx4_2 hBx4_3 hBx4_4
  go_wp2_with fail
  clear hBx4_l hBx4_0 hBx4_1 hBx4_2 hBx4_3 hBx4_4
  refine (HAG.out _ (Below.refl _ _)).mono ?_
  rintro e w5 ⟨hb5, hc⟩
  have hBx5 := hBx4.below hb5
  clear hBx4 HAG
  by_cases h0 : B = 0
  · subst h0
    obtain ⟨-, hres⟩ := hc.resolve_left (fun h => h.1 rfl)
    obtain ⟨-, er, l, ls, ad, bd, cd, dd, rfl, hsa, hsb, hsp, hlsl, hspec⟩ := HF1.out _ _ _ hres
    have hll := HLN.out _ _ _ hspec
    have Hspec := Lib.hid hspec
    have HUN2 := Lib.hid (fun e2 l2 k2 h2 => HUN.out er e2 l l2 (ls.map keyOf3) k2 rfl hspec h2)
    clear hc hres hspec HF1 HLN HUN
    have hBx5_l := hBx5.lt; have hBx5_0 := hBx5.cell 0; have hBx5_1 := hBx5.cell 1; have hBx5_2 := hBx5.cell 2; have hBx5_3 := hBx5.cell 3; have hBx5_4 := hBx5.cell 4; simp at hBx5_0 hBx5_1 hBx5_2 hBx5_3 hBx5_4
    go_wp2_with fail
    clear hBx5_l hBx5_0 hBx5_1 hBx5_2 hBx5_3 hBx5_4
    refine (HBO.out _ hb5).mono ?_
    rintro e w6 ⟨rfl, hb6'⟩
    have hB6 := below_next hb5 hb6'
    have hBx6 := hBx5.below hb6'
    replace hsa := hsa.below hb6'
    replace hsb := hsb.below hb6'
    replace hsp : ∀ x ∈ ls, SA w6 x.a1 x.papers ∧ x.papers.length ≤ 1000000 := fun x hx => ⟨(hsp x hx).1.below hb6', (hsp x hx).2⟩
    clear hb5 hb6' hBx5
    have hBx6_l := hBx6.lt; have hBx6_0 := hBx6.cell 0; have hBx6_1 := hBx6.cell 1; have hBx6_2 := hBx6.cell 2; have hBx6_3 := hBx6.cell 3; have hBx6_4 := hBx6.cell 4; simp at hBx6_0 hBx6_1 hBx6_2 hBx6_3 hBx6_4
    go_wp2_with fail
    clear hBx6_l hBx6_0 hBx6_1 hBx6_2 hBx6_3 hBx6_4
    refine (HAO.out _ hB6).mono ?_
    intro e w7 hres
    obtain ⟨hb7, er2, l2, ls2, ad2, bd2, cd2, dd2, rfl, hsa2, hsb2, hsp2, hlsl2, hspec2⟩ := HF2.out _ _ _ hres
    obtain ⟨rfl, rfl, hkey⟩ := HUN2.out _ _ _ hspec2
    have hB7 := below_next hB6 hb7
    replace hsa := hsa.below hb7
    replace hsb := hsb.below hb7
    replace hsp : ∀ x ∈ ls, SA w7 x.a1 x.papers ∧ x.papers.length ≤ 1000000 := fun x hx => ⟨(hsp x hx).1.below hb7, (hsp x hx).2⟩
    have Hkey := Lib.hid hkey
    clear hB6 hb7 hBx6 hres hspec2 HUN2 HF2 hkey
    go_wp2_with fail
    refine (HPR.out _).mono ?_
    rintro e w8 ⟨rfl, hb8⟩
    have hB8 := below_next hB7 hb8
    have hE := Lib.hid (equal_any l l ad ad2 cd cd2 w8 (hsa.below hb8) (hsa2.below hb8) (by omega) (by omega))
    rw [show decide (l = l) = true from decide_eq_true rfl] at hE
    have HS := Lib.hid (fun W (h : Below w8.heap.size w8 W) => same_any ls ls2 bd bd2 dd dd2 W ((hsb.below hb8).below h) ((hsb2.below hb8).below h) (fun x hx => ⟨((hsp x hx).1.below hb8).below h, (hsp x hx).2⟩) (fun x hx => ((hsp2 x hx).1.below hb8).below h) Hkey.out (by omega))
    have hqe : (er == er) = true := by simp
    clear hsa hsb hsp hsa2 hsb2 hsp2 hB7 hb8
    go_wp2_with fail
    refine hE.out.mono ?_
    rintro e w9 ⟨rfl, n9, rfl⟩
    have hB9 := below_drewN hB8 n9
    go_wp2_with fail
    refine (HS.out _ (below_drewN (Below.refl _ _) n9)).mono ?_
    rintro e w10 ⟨rfl, hb10⟩
    have hBZ := below_next hB9 hb10
    go_wp2_with fail
    go_ret
    exact ⟨rfl, hb6.trans (hBZ.mono hb6.size)⟩
  · obtain ⟨-, rfl⟩ := hc.resolve_right (fun h => h0 h.1)
    have hq : (B != 0) = true := by simpa using h0
    have hqq : (B == B) = true := by simp
    clear hc h0 HAO HF1 HF2 HUN HLN
    have hBx5_l := hBx5.lt; have hBx5_0 := hBx5.cell 0; have hBx5_1 := hBx5.cell 1; have hBx5_2 := hBx5.cell 2; have hBx5_3 := hBx5.cell 3; have hBx5_4 := hBx5.cell 4; simp at hBx5_0 hBx5_1 hBx5_2 hBx5_3 hBx5_4
    go_wp2_with fail
    clear hBx5_l hBx5_0 hBx5_1 hBx5_2 hBx5_3 hBx5_4
    refine (HBO.out _ hb5).mono ?_
    rintro e w6 ⟨rfl, hb6'⟩
    have hB6 := below_next hb5 hb6'
    clear hb5 hb6' hBx5
    go_wp2_with fail
    refine (HPR.out _).mono ?_
    rintro e w7 ⟨rfl, hb7⟩
    have hBZ := below_next hB6 hb7
    go_wp2_with fail
    go_ret
    exact ⟨rfl, hb6.trans (hBZ.mono hb6.size)⟩
end Go.Proofs.YtaecdhdnjmckpaaGreatDoor.agendasFound
