/- A grid of rooms, slots, talks, wishes and bans, and a programme: how they lie in memory, and what is wrong with them. Plain. -/
import Derived.Test.YtldgphhiajhfhaaGreatDoorRiseK
import Derived.Test.YtldgphhiajhfhaaGreatDoorOrd
import Derived.Test.YtldgphhiajhfhaaGreatDoorMom
import Derived.Test.YtldgphhiajhfhaaGreatDoorCmpF
import Derived.Test.YtldgphhiajhfhaaGreatDoorNest
namespace Go.Proofs.YtldgphhiajhfhaaGreatDoor
open Go.RowKit
set_option linter.unusedVariables false
set_option linter.unusedSimpArgs false

/-- A room and its seats. -/
abbrev Rom := ByteArray × Int
/-- A slot: its key, when it begins, how long it is. -/
abbrev Slt := ByteArray × Int × Int
/-- A ban: a person and a slot. -/
abbrev Ban2 := ByteArray × ByteArray
instance instCelRom : Cel Rom := ⟨2, fun t => [.string t.1, .int .i64 t.2], fun _ => rfl, by decide, by simp [Value.oneCell']⟩
instance instCelSlt : Cel Slt := ⟨3, fun t => [.string t.1, .int .i64 t.2.1, .int .i64 t.2.2], fun _ => rfl, by decide, by simp [Value.oneCell']⟩
instance instCelBan : Cel Ban2 := ⟨2, fun t => [.string t.1, .string t.2], fun _ => rfl, by decide, by simp [Value.oneCell']⟩
/-- A talk, and where its lists lie. -/
structure Tlk where
 paper : ByteArray
 speakers : List ByteArray
 topics : List ByteArray
 long : Int
 a1 : Option Addr
 c1 : Nat
 a2 : Option Addr
 c2 : Nat
instance instCelTlk : Cel Tlk := ⟨4, fun t => [.string t.paper, .slice t.a1 t.speakers.length t.c1, .slice t.a2 t.topics.length t.c2, .int .i64 t.long], fun _ => rfl, by decide, by simp [Value.oneCell']⟩
def Tlk.agg (t : Tlk) : Value := .agg #[.string t.paper, .slice t.a1 t.speakers.length t.c1, .slice t.a2 t.topics.length t.c2, .int .i64 t.long]
/-- A wish, and where its list lies. -/
structure Wsh where
 person : ByteArray
 papers : List ByteArray
 a1 : Option Addr
 c1 : Nat
instance instCelWsh : Cel Wsh := ⟨2, fun t => [.string t.person, .slice t.a1 t.papers.length t.c1], fun _ => rfl, by decide, by simp [Value.oneCell']⟩
/-- A session, and where its list lies. -/
structure Ses where
 slot : ByteArray
 room : ByteArray
 papers : List ByteArray
 a1 : Option Addr
 c1 : Nat
instance instCelSes : Cel Ses := ⟨3, fun t => [.string t.slot, .string t.room, .slice t.a1 t.papers.length t.c1], fun _ => rfl, by decide, by simp [Value.oneCell']⟩
def Ses.agg (t : Ses) : Value := .agg #[.string t.slot, .string t.room, .slice t.a1 t.papers.length t.c1]
instance instNstTlk : Nst Tlk where
 ads t := t.a1.toList ++ t.a2.toList
 rd w t := SA w t.a1 t.speakers ∧ SA w t.a2 t.topics
 same h k := ⟨h.1.blk (fun x hx => k x (by simp [hx])), h.2.blk (fun x hx => k x (by simp [hx]))⟩
instance instNstWsh : Nst Wsh where
 ads t := t.a1.toList
 rd w t := SA w t.a1 t.papers
 same h k := h.blk (fun x hx => k x (by simp [hx]))
instance instNstSes : Nst Ses where
 ads t := t.a1.toList
 rd w t := SA w t.a1 t.papers
 same h k := h.blk (fun x hx => k x (by simp [hx]))
/-- A grid, and where its lists lie. -/
structure Grd where
 rooms : List Rom
 slots : List Slt
 talks : List Tlk
 wishes : List Wsh
 bans : List Ban2
 ra : Option Addr
 rc : Nat
 sa : Option Addr
 sc : Nat
 ta : Option Addr
 tc : Nat
 wa : Option Addr
 wc : Nat
 ba : Option Addr
 bc : Nat
def Grd.cells (g : Grd) : Array Value := #[.slice g.ra g.rooms.length g.rc, .slice g.sa g.slots.length g.sc, .slice g.ta g.talks.length g.tc, .slice g.wa g.wishes.length g.wc, .slice g.ba g.bans.length g.bc]
def Grd.agg (g : Grd) : Value := .agg g.cells
/-- All lists of a grid are there. -/
structure GRd (w : World) (g : Grd) : Prop where
 rooms : SA w g.ra g.rooms
 slots : SA w g.sa g.slots
 talks : SA w g.ta g.talks
 wishes : SA w g.wa g.wishes
 bans : SA w g.ba g.bans
 speakers : ∀ t ∈ g.talks, SA w t.a1 t.speakers
 topics : ∀ t ∈ g.talks, SA w t.a2 t.topics
 papers : ∀ x ∈ g.wishes, SA w x.a1 x.papers
theorem GRd.below {w w' : World} {g : Grd} (h : GRd w g) (hb : Below w.heap.size w w') : GRd w' g :=
 ⟨h.rooms.below hb, h.slots.below hb, h.talks.below hb, h.wishes.below hb, h.bans.below hb, fun t ht => (h.speakers t ht).below hb, fun t ht => (h.topics t ht).below hb, fun t ht => (h.papers t ht).below hb⟩
/-- A programme is there with its papers. -/
structure PRg (w : World) (a : Option Addr) (p : List Ses) : Prop where
 list : SA w a p
 papers : ∀ s ∈ p, SA w s.a1 s.papers
theorem PRg.below {w w' : World} {a : Option Addr} {p : List Ses} (h : PRg w a p) (hb : Below w.heap.size w w') : PRg w' a p := ⟨h.list.below hb, fun s hs => (h.papers s hs).below hb⟩
/-- Sizes of a grid that was made. -/
structure GSm (g : Grd) : Prop where
 rooms : g.rooms.length ≤ 1000
 slots : g.slots.length ≤ 1000
 talks : g.talks.length ≤ 1000
 wishes : g.wishes.length ≤ 1000
 bans : g.bans.length ≤ 1000
 room : ∀ x ∈ g.rooms, x.1.size ≤ 1000
 slot : ∀ x ∈ g.slots, x.1.size ≤ 1000 ∧ -100000000 ≤ x.2.1 ∧ x.2.1 ≤ 100000000 ∧ -100000000 ≤ x.2.2 ∧ x.2.2 ≤ 100000000
 talk : ∀ t ∈ g.talks, t.paper.size ≤ 1000 ∧ t.speakers.length ≤ 1000 ∧ t.topics.length ≤ 1000 ∧ (∀ x ∈ t.speakers, x.size ≤ 1000) ∧ (∀ x ∈ t.topics, x.size ≤ 1000) ∧ -100000 ≤ t.long ∧ t.long ≤ 100000
 wish : ∀ x ∈ g.wishes, x.person.size ≤ 1000 ∧ x.papers.length ≤ 1000 ∧ ∀ y ∈ x.papers, y.size ≤ 1000
 ban : ∀ x ∈ g.bans, x.1.size ≤ 1000 ∧ x.2.size ≤ 1000

def talkOf (g : Grd) (k : ByteArray) : Option Tlk := g.talks.find? (fun t => decide (t.paper = k))
def slotOf (g : Grd) (k : ByteArray) : Option Slt := g.slots.find? (fun s => decide (s.1 = k))
def roomOf (g : Grd) (k : ByteArray) : Option Rom := g.rooms.find? (fun r => decide (r.1 = k))
/-- The first error of rooms, of slots, of talks, of wishes, of bans. -/
def roomE (l : List Rom) (i : Nat) : Int :=
 match l[i]? with
 | none => 0
 | some x => if keyB x.1 = false then 5 else if ordB (l.map (·.1)) i then 7 else if decide (x.2 < 1) || decide (10000 < x.2) then 1 else 0
def roomsFault (l : List Rom) : Int := if 20 < l.length then 2 else firstErr (roomE l) l.length
def slotE (l : List Slt) (i : Nat) : Int :=
 match l[i]? with
 | none => 0
 | some x => if keyB x.1 = false then 5 else if ordB (l.map (·.1)) i then 7 else if (!momB x.2.1) || (decide (x.2.2 < 1) || decide (1440 < x.2.2)) then 1 else 0
def slotsFault (l : List Slt) : Int := if 40 < l.length then 2 else firstErr (slotE l) l.length
/-- What is wrong with a talk, but for its paper. -/
def talkFault (t : Tlk) : Int :=
 if t.speakers.length = 0 then 8
 else if 20 < t.speakers.length then 2
 else if riseFault t.speakers ≠ 0 then riseFault t.speakers
 else if 8 < t.topics.length then 2
 else if riseFault t.topics ≠ 0 then riseFault t.topics
 else if decide (t.long < 1) || decide (1440 < t.long) then 1 else 0
def talkE (l : List Tlk) (i : Nat) : Int :=
 match l[i]? with
 | none => 0
 | some x => if keyB x.paper = false then 5 else if ordB (l.map (·.paper)) i then 7 else talkFault x
def talksFault (l : List Tlk) : Int := if 200 < l.length then 2 else firstErr (talkE l) l.length
/-- The first error of papers that must be talks and rise. -/
def wpE (g : Grd) (l : List ByteArray) (i : Nat) : Int :=
 match l[i]? with
 | none => 0
 | some x => if (talkOf g x).isSome = false then 8 else if ordB l i then 7 else 0
def wishE (g : Grd) (i : Nat) : Int :=
 match g.wishes[i]? with
 | none => 0
 | some x => if keyB x.person = false then 5 else if ordB (g.wishes.map (·.person)) i then 7 else firstErr (wpE g x.papers) x.papers.length
def wishesFault (g : Grd) : Int := if 500 < g.wishes.length then 2 else firstErr (wishE g) g.wishes.length
/-- A ban is not behind the one ahead of it. -/
def banOrd (l : List Ban2) (i : Nat) : Bool :=
 match l[i]?, (if 0 < i then l[i - 1]? else none) with
 | some x, some y => decide (firstOf [cmpS x.1 y.1, cmpS x.2 y.2] ≤ 0)
 | _, _ => false
def banE (g : Grd) (i : Nat) : Int :=
 match g.bans[i]? with
 | none => 0
 | some x => if keyB x.1 = false then 5 else if (slotOf g x.2).isSome = false then 8 else if banOrd g.bans i then 7 else 0
def bansFault (g : Grd) : Int := if 500 < g.bans.length then 2 else firstErr (banE g) g.bans.length
def gridFault (g : Grd) : Int :=
 if roomsFault g.rooms ≠ 0 then roomsFault g.rooms
 else if slotsFault g.slots ≠ 0 then slotsFault g.slots
 else if talksFault g.talks ≠ 0 then talksFault g.talks
 else if wishesFault g ≠ 0 then wishesFault g
 else bansFault g
/-- Two slots have a minute in common. -/
def slotOut (s : Slt) : Bool := (decide (s.2.1 < 0) || decide (5761440 < s.2.1)) || (decide (s.2.2 < 0) || decide (1440 < s.2.2))
def overlapsB (a b : Slt) : Bool := if slotOut a = true then false else if slotOut b = true then false else decide (a.2.1 < b.2.1 + b.2.2) && decide (b.2.1 < a.2.1 + a.2.2)
def slotOr (g : Grd) (k : ByteArray) : Slt := (slotOf g k).getD (⟨#[]⟩, 0, 0)
def meetsB (g : Grd) (a b : Ses) : Bool := overlapsB (slotOr g a.slot) (slotOr g b.slot)
def inB (l : List ByteArray) (x : ByteArray) : Bool := l.any (fun y => decide (y = x))
def sharesB (a b : List ByteArray) : Bool := a.any (fun x => inB b x)
def talkSp (g : Grd) (x : ByteArray) : List ByteArray := ((talkOf g x).map (·.speakers)).getD []
def talkLong (g : Grd) (x : ByteArray) : Int := ((talkOf g x).map (·.long)).getD 0
def speakersOf (g : Grd) (s : Ses) : List ByteArray := s.papers.flatMap (talkSp g)
def sesOrd (a b : Ses) : Int := firstOf [cmpS a.slot b.slot, cmpS a.room b.room]
/-- What is wrong with the papers of a session, some being there already. -/
def papE (g : Grd) (seen l : List ByteArray) (k : Nat) : Int :=
 match l[k]? with
 | none => 0
 | some x => if (talkOf g x).isSome = false then 8 else if inB (seen ++ l.take k) x then 6 else 0
def longN (g : Grd) (l : List ByteArray) : Int := l.foldl (fun n x => n + talkLong g x) 0
def sesBehind (p : List Ses) (i : Nat) : Bool :=
 match p[i]?, (if 0 < i then p[i - 1]? else none) with
 | some x, some y => decide (0 ≤ sesOrd y x)
 | _, _ => false
def sesE (g : Grd) (p : List Ses) (i : Nat) : Int :=
 match p[i]? with
 | none => 0
 | some s =>
  if (!(slotOf g s.slot).isSome || !(roomOf g s.room).isSome) = true then 8
  else if sesBehind p i then 7
  else if s.papers.length = 0 then 3
  else if firstErr (papE g ((p.take i).flatMap (·.papers)) s.papers) s.papers.length ≠ 0 then firstErr (papE g ((p.take i).flatMap (·.papers)) s.papers) s.papers.length
  else if (slotOr g s.slot).2.2 < longN g s.papers then 12 else 0
def cflE (g : Grd) (p : List Ses) (i : Nat) : Int :=
 match p[i]? with
 | none => 0
 | some s =>
  if ((p.take i).any (fun o => decide (o.room = s.room) && meetsB g o s) || (p.take i).any (fun o => meetsB g o s && sharesB (speakersOf g o) (speakersOf g s))) = true then 13
  else if g.bans.any (fun b => decide (b.2 = s.slot) && inB (speakersOf g s) b.1) then 11 else 0
def progFault (g : Grd) (p : List Ses) : Int :=
 if 800 < p.length then 2
 else if firstErr (sesE g p) p.length ≠ 0 then firstErr (sesE g p) p.length
 else firstErr (cflE g p) p.length
end Go.Proofs.YtldgphhiajhfhaaGreatDoor
