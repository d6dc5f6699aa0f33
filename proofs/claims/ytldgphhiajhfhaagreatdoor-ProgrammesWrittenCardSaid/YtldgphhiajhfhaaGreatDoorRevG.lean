/- slices.Reverse of talks and of sessions. Written by gen/src/revg.py. -/
import Derived.Test.YtldgphhiajhfhaaGreatDoorGridW
namespace Go.Proofs.YtldgphhiajhfhaaGreatDoor
open Go.RowKit
set_option linter.unusedVariables false
set_option linter.unusedSimpArgs false

theorem SA.tlkC {w : World} {a : Option Addr} {l : List Tlk} (h : SA w a l) {i : Nat} (hi : i < l.length) :
  ∃ b off, a = some ⟨b, off, none⟩ ∧ w.cell? ⟨b, off + i * 4, none⟩ = some (.string l[i].paper) ∧ w.cell? ⟨b, off + i * 4 + 1, none⟩ = some (.slice l[i].a1 l[i].speakers.length l[i].c1) ∧ w.cell? ⟨b, off + i * 4 + 2, none⟩ = some (.slice l[i].a2 l[i].topics.length l[i].c2) ∧ w.cell? ⟨b, off + i * 4 + 3, none⟩ = some (.int .i64 l[i].long) := by
 obtain ⟨b, off, ha, hc⟩ := h.at hi
 exact ⟨b, off, ha, hc 0 (by decide), hc 1 (by decide), hc 2 (by decide), hc 3 (by decide)⟩
theorem Own.setTlk {w : World} {base : Nat} {E : TypeId} {g n cap : Nat} {l : List Tlk} (h : Own base E w (.slice (some ⟨g, 0, none⟩) n cap) l) (i : Nat) (hi : i < l.length) (x : Tlk) :
  Own base E ((((w.setCell ⟨g, i * 4, none⟩ (.string x.paper)).setCell ⟨g, i * 4 + 1, none⟩ (.slice x.a1 x.speakers.length x.c1)).setCell ⟨g, i * 4 + 2, none⟩ (.slice x.a2 x.topics.length x.c2)).setCell ⟨g, i * 4 + 3, none⟩ (.int .i64 x.long)) (.slice (some ⟨g, 0, none⟩) n cap) (l.set i x) := by
 have h1 := h.put i 0 ⟨x.paper, l[i].speakers, l[i].topics, l[i].long, l[i].a1, l[i].c1, l[i].a2, l[i].c2⟩ (.string x.paper) (by simpa using hi) (by decide) (by first | rfl | (simp; rfl))
 have h2 := h1.put i 1 ⟨x.paper, x.speakers, l[i].topics, l[i].long, x.a1, x.c1, l[i].a2, l[i].c2⟩ (.slice x.a1 x.speakers.length x.c1) (by simpa using hi) (by decide) (by first | rfl | (simp; rfl))
 have h3 := h2.put i 2 ⟨x.paper, x.speakers, x.topics, l[i].long, x.a1, x.c1, x.a2, x.c2⟩ (.slice x.a2 x.topics.length x.c2) (by simpa using hi) (by decide) (by first | rfl | (simp; rfl))
 have h4 := h3.put i 3 x (.int .i64 x.long) (by simpa using hi) (by decide) (by first | rfl | (simp; rfl))
 simp only [List.set_set] at h4; exact h4
set_option maxRecDepth 100000 in
set_option maxHeartbeats 4000000 in
theorem reverseTlk_any (base : Nat) (l : List Tlk) (a : Option Addr) (cap : Nat) (w : World) (hown : Own base 60 w (.slice a l.length cap) l) (hlen : l.length ≤ 1000000) :
  Calls Tryz.prog 23 #[.slice a l.length cap] w (fun e w' => ∃ l' : List Tlk, e = .returned (.tuple #[]) ∧ l'.length = l.length ∧ (∀ x ∈ l', x ∈ l) ∧ Own base 60 w' (.slice a l.length cap) l' ∧ Kp (fun j => (Value.slice a l.length cap).ownBlock = some j) w w') := by
 obtain ⟨n, hn⟩ : ∃ n, l.length = n := ⟨_, rfl⟩
 rw [hn] at hown hlen ⊢
 have Hn := Lib.hid hn
 clear hn
 go_enter Tryz.func23, Tryz.ntmps23
 go_wp2_with fail
 go_loopg [2, 3] n (fun gk i j wr => ∃ (k : Nat) (l' : List Tlk), i = .int .i64 k ∧ j = .int .i64 ((n : Int) - 1 - k) ∧ k ≤ n ∧ Hid (gk = n - k) ∧ Hid (l'.length = n) ∧ Hid (∀ x ∈ l', x ∈ l) ∧ Own base 60 wr (.slice a n cap) l' ∧ Kp (fun j => (Value.slice a n cap).ownBlock = some j) w wr)
 case atStart => exact ⟨0, l, rfl, by simp, by omega, rfl, Hn.out, fun x hx => hx, hown, Kp.refl _ _⟩
 case round =>
  obtain ⟨k, l', rfl, rfl, hk, hgk, hl', hs', hown', hb⟩ := hrel
  by_cases hlt : 2 * k + 1 < n
  ·
   obtain ⟨m, hm⟩ : ∃ m : Nat, m + k + 1 = n := ⟨n - 1 - k, by omega⟩
   have hmi : (n : Int) - 1 - k = m := by omega
   rw [hmi]
   obtain ⟨a', cap', he, hsa, hbl, _⟩ := hown'.sa
   simp only [Value.slice.injEq] at he
   obtain ⟨rfl, -, rfl⟩ := he
   have hk' : k < l'.length := by have := hl'.out; omega
   have hm' : m < l'.length := by have := hl'.out; omega
   obtain ⟨g, off, ha, c0, c1, c2, c3⟩ := hsa.tlkC (i := k) hk'
   have hg0 : off = 0 := by
    obtain ⟨_, h2⟩ := hown'
    rcases h2 with ⟨h2, _⟩ | ⟨g', cap', cur, he, _⟩
    ·
     simp at h2; rw [h2.1] at ha; cases ha
    ·
     cases he; cases ha; rfl
   subst hg0
   obtain ⟨g2, off2, ha2, d0, d1, d2, d3⟩ := hsa.tlkC (i := m) hm'
   rw [ha] at ha2
   cases ha2
   rw [ha] at hown'
   obtain ⟨cur, hbx⟩ := hown'.box
   rw [Nat.zero_add] at c0 c1 c2 c3 d0 d1 d2 d3
   have f0 := hbx.frozen (k * 4)
   have f1 := hbx.frozen (k * 4 + 1)
   have f2 := hbx.frozen (k * 4 + 2)
   have f3 := hbx.frozen (k * 4 + 3)
   have e0 := hbx.frozen (m * 4)
   have e1 := hbx.frozen (m * 4 + 1)
   have e2 := hbx.frozen (m * 4 + 2)
   have e3 := hbx.frozen (m * 4 + 3)
   have Hown := Lib.hid hown'
   have hkm : k ≠ m := by omega
   have Hx := Lib.hid (List.getElem_mem hk')
   have Hy := Lib.hid (List.getElem_mem hm')
   generalize l'[k] = x at *
   generalize l'[m] = y at *
   rw [ha]
   clear hsa hbl hbx
   go_wp2_with fail
   go_region
   go_wp2_with fail
   rw [← ha]
   go_roundg (n - (k + 1))
   case measure => have := hgk.out; omega
   case rel =>
    have q1 := Hown.out.setTlk k hk' y
    have q2 := q1.setTlk m (by simpa using hm') x
    have hgo : (Value.slice a n cap).ownBlock = some g := by rw [ha]; rfl
    refine ⟨k + 1, _, by go_num, by go_num, by omega, rfl, ?_, ?_, by rw [ha]; exact q2.drew, ((((((((hb.setCell (p := ⟨g, k * 4, none⟩) (.inl hgo) _).setCell (p := ⟨g, k * 4 + 1, none⟩) (.inl hgo) _).setCell (p := ⟨g, k * 4 + 2, none⟩) (.inl hgo) _).setCell (p := ⟨g, k * 4 + 3, none⟩) (.inl hgo) _).setCell (p := ⟨g, m * 4, none⟩) (.inl hgo) _).setCell (p := ⟨g, m * 4 + 1, none⟩) (.inl hgo) _).setCell (p := ⟨g, m * 4 + 2, none⟩) (.inl hgo) _).setCell (p := ⟨g, m * 4 + 3, none⟩) (.inl hgo) _).drew⟩
    ·
     have := hl'.out; show List.length _ = n; simp; omega
    ·
     intro z hz
     rcases List.mem_or_eq_of_mem_set hz with hz | rfl
     ·
      rcases List.mem_or_eq_of_mem_set hz with hz | rfl
      ·
       exact hs'.out z hz
      ·
       exact hs'.out _ Hy.out
     ·
      exact hs'.out _ Hx.out
  ·
   go_wp2_with fail
   go_end0
   exact ⟨l', rfl, hl'.out, hs'.out, hown', hb⟩
theorem SA.sesC {w : World} {a : Option Addr} {l : List Ses} (h : SA w a l) {i : Nat} (hi : i < l.length) :
  ∃ b off, a = some ⟨b, off, none⟩ ∧ w.cell? ⟨b, off + i * 3, none⟩ = some (.string l[i].slot) ∧ w.cell? ⟨b, off + i * 3 + 1, none⟩ = some (.string l[i].room) ∧ w.cell? ⟨b, off + i * 3 + 2, none⟩ = some (.slice l[i].a1 l[i].papers.length l[i].c1) := by
 obtain ⟨b, off, ha, hc⟩ := h.at hi
 exact ⟨b, off, ha, hc 0 (by decide), hc 1 (by decide), hc 2 (by decide)⟩
theorem Own.setSes {w : World} {base : Nat} {E : TypeId} {g n cap : Nat} {l : List Ses} (h : Own base E w (.slice (some ⟨g, 0, none⟩) n cap) l) (i : Nat) (hi : i < l.length) (x : Ses) :
  Own base E (((w.setCell ⟨g, i * 3, none⟩ (.string x.slot)).setCell ⟨g, i * 3 + 1, none⟩ (.string x.room)).setCell ⟨g, i * 3 + 2, none⟩ (.slice x.a1 x.papers.length x.c1)) (.slice (some ⟨g, 0, none⟩) n cap) (l.set i x) := by
 have h1 := h.put i 0 ⟨x.slot, l[i].room, l[i].papers, l[i].a1, l[i].c1⟩ (.string x.slot) (by simpa using hi) (by decide) (by first | rfl | (simp; rfl))
 have h2 := h1.put i 1 ⟨x.slot, x.room, l[i].papers, l[i].a1, l[i].c1⟩ (.string x.room) (by simpa using hi) (by decide) (by first | rfl | (simp; rfl))
 have h3 := h2.put i 2 x (.slice x.a1 x.papers.length x.c1) (by simpa using hi) (by decide) (by first | rfl | (simp; rfl))
 simp only [List.set_set] at h3; exact h3
set_option maxRecDepth 100000 in
set_option maxHeartbeats 4000000 in
theorem reverseSes_any (base : Nat) (l : List Ses) (a : Option Addr) (cap : Nat) (w : World) (hown : Own base 67 w (.slice a l.length cap) l) (hlen : l.length ≤ 1000000) :
  Calls Tryz.prog 25 #[.slice a l.length cap] w (fun e w' => ∃ l' : List Ses, e = .returned (.tuple #[]) ∧ l'.length = l.length ∧ (∀ x ∈ l', x ∈ l) ∧ Own base 67 w' (.slice a l.length cap) l' ∧ Kp (fun j => (Value.slice a l.length cap).ownBlock = some j) w w') := by
 obtain ⟨n, hn⟩ : ∃ n, l.length = n := ⟨_, rfl⟩
 rw [hn] at hown hlen ⊢
 have Hn := Lib.hid hn
 clear hn
 go_enter Tryz.func25, Tryz.ntmps25
 go_wp2_with fail
 go_loopg [2, 3] n (fun gk i j wr => ∃ (k : Nat) (l' : List Ses), i = .int .i64 k ∧ j = .int .i64 ((n : Int) - 1 - k) ∧ k ≤ n ∧ Hid (gk = n - k) ∧ Hid (l'.length = n) ∧ Hid (∀ x ∈ l', x ∈ l) ∧ Own base 67 wr (.slice a n cap) l' ∧ Kp (fun j => (Value.slice a n cap).ownBlock = some j) w wr)
 case atStart => exact ⟨0, l, rfl, by simp, by omega, rfl, Hn.out, fun x hx => hx, hown, Kp.refl _ _⟩
 case round =>
  obtain ⟨k, l', rfl, rfl, hk, hgk, hl', hs', hown', hb⟩ := hrel
  by_cases hlt : 2 * k + 1 < n
  ·
   obtain ⟨m, hm⟩ : ∃ m : Nat, m + k + 1 = n := ⟨n - 1 - k, by omega⟩
   have hmi : (n : Int) - 1 - k = m := by omega
   rw [hmi]
   obtain ⟨a', cap', he, hsa, hbl, _⟩ := hown'.sa
   simp only [Value.slice.injEq] at he
   obtain ⟨rfl, -, rfl⟩ := he
   have hk' : k < l'.length := by have := hl'.out; omega
   have hm' : m < l'.length := by have := hl'.out; omega
   obtain ⟨g, off, ha, c0, c1, c2⟩ := hsa.sesC (i := k) hk'
   have hg0 : off = 0 := by
    obtain ⟨_, h2⟩ := hown'
    rcases h2 with ⟨h2, _⟩ | ⟨g', cap', cur, he, _⟩
    ·
     simp at h2; rw [h2.1] at ha; cases ha
    ·
     cases he; cases ha; rfl
   subst hg0
   obtain ⟨g2, off2, ha2, d0, d1, d2⟩ := hsa.sesC (i := m) hm'
   rw [ha] at ha2
   cases ha2
   rw [ha] at hown'
   obtain ⟨cur, hbx⟩ := hown'.box
   rw [Nat.zero_add] at c0 c1 c2 d0 d1 d2
   have f0 := hbx.frozen (k * 3)
   have f1 := hbx.frozen (k * 3 + 1)
   have f2 := hbx.frozen (k * 3 + 2)
   have e0 := hbx.frozen (m * 3)
   have e1 := hbx.frozen (m * 3 + 1)
   have e2 := hbx.frozen (m * 3 + 2)
   have Hown := Lib.hid hown'
   have hkm : k ≠ m := by omega
   have Hx := Lib.hid (List.getElem_mem hk')
   have Hy := Lib.hid (List.getElem_mem hm')
   generalize l'[k] = x at *
   generalize l'[m] = y at *
   rw [ha]
   clear hsa hbl hbx
   go_wp2_with fail
   go_region
   go_wp2_with fail
   rw [← ha]
   go_roundg (n - (k + 1))
   case measure => have := hgk.out; omega
   case rel =>
    have q1 := Hown.out.setSes k hk' y
    have q2 := q1.setSes m (by simpa using hm') x
    have hgo : (Value.slice a n cap).ownBlock = some g := by rw [ha]; rfl
    refine ⟨k + 1, _, by go_num, by go_num, by omega, rfl, ?_, ?_, by rw [ha]; exact q2.drew, ((((((hb.setCell (p := ⟨g, k * 3, none⟩) (.inl hgo) _).setCell (p := ⟨g, k * 3 + 1, none⟩) (.inl hgo) _).setCell (p := ⟨g, k * 3 + 2, none⟩) (.inl hgo) _).setCell (p := ⟨g, m * 3, none⟩) (.inl hgo) _).setCell (p := ⟨g, m * 3 + 1, none⟩) (.inl hgo) _).setCell (p := ⟨g, m * 3 + 2, none⟩) (.inl hgo) _).drew⟩
    ·
     have := hl'.out; show List.length _ = n; simp; omega
    ·
     intro z hz
     rcases List.mem_or_eq_of_mem_set hz with hz | rfl
     ·
      rcases List.mem_or_eq_of_mem_set hz with hz | rfl
      ·
       exact hs'.out z hz
      ·
       exact hs'.out _ Hy.out
     ·
      exact hs'.out _ Hx.out
  ·
   go_wp2_with fail
   go_end0
   exact ⟨l', rfl, hl'.out, hs'.out, hown', hb⟩
theorem GW.turnt {base gb : Nat} {vr vs vt vw vb : Value} {lr : List Rom} {ls : List Slt} {lt : List Tlk} {lw : List Wsh} {lb : List Ban2} {w w' : World} {l' : List Tlk} (h : GW base gb vr vs vt vw vb lr ls lt lw lb w) (hk : Kp (fun j => vt.ownBlock = some j) w w') (hin : ∀ x ∈ l', x ∈ lt) (hown : Own base 60 w' vt l') : GW base gb vr vs vt vw vb lr ls l' lw lb w' := by
 have hsub : ∀ y ∈ adsG l' lw, y ∈ adsG lt lw := fun y hy => by
  rcases List.mem_append.1 hy with hy | hy
  ·
   obtain ⟨x, hx, hy⟩ := List.mem_flatMap.1 hy
   exact List.mem_append_left _ (List.mem_flatMap.2 ⟨x, hin x hx, hy⟩)
  ·
   exact List.mem_append_right _ hy
 have hin2 : ∀ x ∈ lt, ∀ y ∈ Nst.ads x, y ∈ adsG lt lw := fun x hx y hy => List.mem_append_left _ (List.mem_flatMap.2 ⟨x, hx, hy⟩)
 have hin3 : ∀ x ∈ lw, ∀ y ∈ Nst.ads x, y ∈ adsG lt lw := fun x hx y hy => List.mem_append_right _ (List.mem_flatMap.2 ⟨x, hx, hy⟩)
 exact ⟨h.box.kp hk h.xt, h.fr.kp hk (fun j hj e => h.art j hj e), h.fs.kp hk (fun j hj e => h.ast j hj e), hown, h.fw.kp hk (fun j hj e => h.atw j e hj), h.fb.kp hk (fun j hj e => h.atb j e hj),
  fun x hx => Nst.same (h.rdt x (hin x hx)) (fun y hy => hk.block _ (h.nb y (hin2 _ (hin x hx) y hy)).2 (h.ot y (hin2 _ (hin x hx) y hy))),
  fun x hx => Nst.same (h.rdw x hx) (fun y hy => hk.block _ (h.nb y (hin3 _ hx y hy)).2 (h.ot y (hin3 _ hx y hy))),
  h.ars, h.art, h.arw, h.arb, h.ast, h.asw, h.asb, h.atw, h.atb, h.awb,
  fun y hy => h.or y (hsub y hy), fun y hy => h.os y (hsub y hy), fun y hy => h.ot y (hsub y hy), fun y hy => h.ow y (hsub y hy), fun y hy => h.ob y (hsub y hy),
  fun y hy => ⟨(h.nb y (hsub y hy)).1, Nat.lt_of_lt_of_le (h.nb y (hsub y hy)).2 hk.size⟩, fun y hy => h.gn y (hsub y hy), h.xr, h.xs, h.xt, h.xw, h.xb⟩
end Go.Proofs.YtldgphhiajhfhaaGreatDoor
