/- The program's machine: its state, what was told; Begin. -/
import Derived.Test.YtcihfjfbcfgidaaRegTell
import Derived.Test.YtcihfjfbcfgidaaTalB
import Derived.Handy
namespace Go.Proofs.Ytcihfjfbcfgidaa
open Go.RowKit Go.Maps Go.Proofs.YtcihfjfbcfgidaaW.PrintLast

/-- The longest bytes. -/
def MB : Nat := 140737488351232
/-- What a machine is made of. -/
structure Hd where
  client : Int
  op : Int
  k0 : Int
  k1 : Int
  k2 : Int
  k3 : Int
  grp : List Int
  wr : Bool
  blk : List Int
  size : Int
def Hd.need (h : Hd) : Int := ((h.grp.length / 2 + 1 : Nat) : Int)
structure HdOk (h : Hd) : Prop where
  grp : h.grp.length ≤ 1000
  wf : ∀ s ∈ h.grp, (Lit.int .i64 s).wf = true
  nd : uniqF h.grp = h.grp
  blk : h.blk.length ≤ MB
  size : 0 ≤ h.size ∧ h.size ≤ 4096

/-- An answer: whose, its stamp, its data. -/
structure Ans where
  s : Int
  st : Int × Int
  ds : List Int
/-- An answer in memory. -/
structure Rec where
  s : Int
  st : Int × Int
  dv : Value
  ds : List Int
def Rec.ans (r : Rec) : Ans := ⟨r.s, r.st, r.ds⟩
def Rec.pair (r : Rec) : Int × Value := (r.s, blkV r.st r.dv)

/-- Where a machine stands. -/
inductive Ph where
  | fresh
  | asking (qs : List Ans)
  | laying (ss : List Int) (tag : Int × Int) (ds : List Int)
  | ended (err : Int) (tag : Int × Int) (ds : List Int)

def askV (tg : Nat) : Value := .iface 162 (.agg #[.pointer (some ⟨tg, 0, Option.none⟩)])
def layV (tg : Nat) (tag : Int × Int) (dv : Value) : Value := .iface 183 (.agg #[.pointer (some ⟨tg, 0, Option.none⟩), .int .i64 tag.1, .int .i64 tag.2, dv])
def resCells (err : Int) (tag : Int × Int) (dv : Value) : List Value := [.int .i64 err, .string ⟨#[]⟩, .int .i64 0, .int .i64 0, .int .i64 0, .slice Option.none 0 0, dv, .int .i64 0, .int .i64 tag.1, .int .i64 tag.2, .int .i64 0]
def endV (err : Int) (tag : Int × Int) (dv : Value) : Value := .iface 165 (.agg (resCells err tag dv).toArray)

/-- The value's block is one of these. -/
def In (X : Nat → Prop) (v : Value) : Prop := ∀ b, v.ownBlock = some b → X b
theorem In.mono {X Y : Nat → Prop} {v : Value} (h : In X v) (hXY : ∀ b, X b → Y b) : In Y v := fun b e => hXY b (h b e)
theorem In.nil (X : Nat → Prop) : In X (.slice Option.none 0 0) := fun b e => by simp [Value.ownBlock] at e

def StAt (w : World) (X : Nat → Prop) (base : Nat) (h : Hd) (round : Int) (st : Value) : Ph → Prop
  | .fresh => st = freshV
  | .asking qs => ∃ (tg : Nat) (vg : Value) (bm : Nat) (rs : List Rec), st = askV tg ∧ rs.map Rec.ans = qs ∧ TB.Tal w tg base vg h.grp h.need bm (rs.map Rec.pair) ∧ (∀ r ∈ rs, Row .u8 5 w base r.dv r.ds ∧ In X r.dv ∧ r.ds.length ≤ MB) ∧ X tg ∧ X bm ∧ In X vg ∧ 1 ≤ round ∧ round ≤ 1099511627776 ∧ (rs.length : Int) ≤ h.need
  | .laying ss tag ds => ∃ (tg : Nat) (vg : Value) (bm : Nat) (dv : Value), st = layV tg tag dv ∧ TB.Tal w tg base vg h.grp h.need bm (ss.map fun s => (s, TB.zeroB)) ∧ Row .u8 5 w base dv ds ∧ In X dv ∧ ds.length ≤ MB ∧ X tg ∧ X bm ∧ In X vg ∧ 1 ≤ round ∧ round ≤ 1099511627776 ∧ (ss.length : Int) ≤ h.need
  | .ended err tag ds => ∃ dv : Value, st = endV err tag dv ∧ Row .u8 5 w base dv ds ∧ In X dv ∧ ds.length ≤ MB

structure Mach (w : World) (base : Nat) (X : Nat → Prop) (g : Nat) (h : Hd) (round : Int) (ph : Ph) : Prop where
  out : ∃ v bl st, Blk w g 109 (mcells h.client h.op round h.need h.k0 h.k1 h.k2 h.k3 v h.wr bl h.size st) ∧ Row .i64 3 w base v h.grp ∧ In X v ∧ Row .u8 5 w base bl h.blk ∧ In X bl ∧ StAt w X base h round st ph
  g : ¬ X g ∧ base ≤ g
  X : ∀ b, X b → base ≤ b ∧ b < w.heap.size
  ok : HdOk h

theorem StAt.keeps {S X : Nat → Prop} {w w' : World} {base : Nat} {h : Hd} {round : Int} {st : Value} {ph : Ph} (hs : StAt w X base h round st ph) (hk : Keeps S w w') (hS : ∀ b, X b → ¬ S b) : StAt w' X base h round st ph := by
  cases ph with
  | fresh => exact hs
  | asking qs =>
    obtain ⟨tg, vg, bm, rs, h1, h2, h3, h4, h5, h6, h7, h8⟩ := hs
    exact ⟨tg, vg, bm, rs, h1, h2, h3.keeps hk (hS _ h5) (hS _ h6) (fun b e => hS _ (h7 b e)), fun r hr => ⟨(h4 r hr).1.keeps hk (fun b e => hS _ ((h4 r hr).2.1 b e)), (h4 r hr).2⟩, h5, h6, h7, h8⟩
  | laying ss tag ds =>
    obtain ⟨tg, vg, bm, dv, h1, h2, h3, h4, h4', h5, h6, h7, h8⟩ := hs
    exact ⟨tg, vg, bm, dv, h1, h2.keeps hk (hS _ h5) (hS _ h6) (fun b e => hS _ (h7 b e)), h3.keeps hk (fun b e => hS _ (h4 b e)), h4, h4', h5, h6, h7, h8⟩
  | ended err tag ds =>
    obtain ⟨dv, h1, h2, h3, h4⟩ := hs
    exact ⟨dv, h1, h2.keeps hk (fun b e => hS _ (h3 b e)), h3, h4⟩
theorem StAt.mono {X Y : Nat → Prop} {w : World} {base : Nat} {h : Hd} {round : Int} {st : Value} {ph : Ph} (hs : StAt w X base h round st ph) (hXY : ∀ b, X b → Y b) : StAt w Y base h round st ph := by
  cases ph with
  | fresh => exact hs
  | asking qs =>
    obtain ⟨tg, vg, bm, rs, h1, h2, h3, h4, h5, h6, h7, h8⟩ := hs
    exact ⟨tg, vg, bm, rs, h1, h2, h3, fun r hr => ⟨(h4 r hr).1, (h4 r hr).2.1.mono hXY, (h4 r hr).2.2⟩, hXY _ h5, hXY _ h6, h7.mono hXY, h8⟩
  | laying ss tag ds =>
    obtain ⟨tg, vg, bm, dv, h1, h2, h3, h4, h4', h5, h6, h7, h8⟩ := hs
    exact ⟨tg, vg, bm, dv, h1, h2, h3, h4.mono hXY, h4', hXY _ h5, hXY _ h6, h7.mono hXY, h8⟩
  | ended err tag ds =>
    obtain ⟨dv, h1, h2, h3, h4⟩ := hs
    exact ⟨dv, h1, h2, h3.mono hXY, h4⟩
theorem Mach.keeps {S X : Nat → Prop} {w w' : World} {base g : Nat} {h : Hd} {round : Int} {ph : Ph} (hm : Mach w base X g h round ph) (hk : Keeps S w w') (hS : ∀ b, X b → ¬ S b) (hg : ¬ S g) : Mach w' base X g h round ph := by
  obtain ⟨v, bl, st, h1, h2, h3, h4, h5, h6⟩ := hm.out
  exact ⟨⟨v, bl, st, h1.keeps hk hg, h2.keeps hk (fun b e => hS _ (h3 b e)), h3, h4.keeps hk (fun b e => hS _ (h5 b e)), h5, h6.keeps hk hS⟩, hm.g, fun b hb => ⟨(hm.X b hb).1, Nat.lt_of_lt_of_le (hm.X b hb).2 hk.size⟩, hm.ok⟩
theorem Mach.grew {X : Nat → Prop} {w w' : World} {base g : Nat} {h : Hd} {round : Int} {ph : Ph} (hm : Mach w base X g h round ph) (hk : Keeps None w w') : Mach w' base X g h round ph := hm.keeps hk (fun _ _ => id) id
theorem Mach.lt {X : Nat → Prop} {w : World} {base g : Nat} {h : Hd} {round : Int} {ph : Ph} (hm : Mach w base X g h round ph) : g < w.heap.size := by
  obtain ⟨v, bl, st, h1, _⟩ := hm.out; exact h1.lt

/-- What a call tells: nothing, or a message to each of some. -/
inductive OutS where
  | no
  | msgs (kind round : Int) (tag : Int × Int) (zs l : List Int)
def OutAt (w : World) (B : Nat) (h : Hd) (u : Value) : OutS → Prop
  | .no => u = .slice Option.none 0 0
  | .msgs kind round tag zs l => ∃ ms, MsgRow w B kind h.client h.op round h.k0 h.k1 h.k2 h.k3 tag.1 tag.2 u l zs ms

/-- A call's end: where the machine stands, what it told, in blocks of their own. -/
def StepEnd (w : World) (base : Nat) (X : Nat → Prop) (g : Nat) (h : Hd) (round : Int) (ph : Ph) (out : OutS) (e : Ending) (w' : World) : Prop :=
  ∃ X' B u, e = .returned u ∧ Mach w' base X' g h round ph ∧ OutAt w' B h u out ∧ (∀ b, X b → X' b) ∧ (∀ b, X' b → X b ∨ w.heap.size ≤ b) ∧ (∀ b, X' b → b < B) ∧ w.heap.size ≤ B ∧ Keeps (fun k => X k ∨ k = g) w w'

set_option maxRecDepth 100000 in
set_option maxHeartbeats 1600000 in
theorem end_any (g : Nat) (client op round need k0 k1 k2 k3 : Int) (v : Value) (wr : Bool) (bl : Value) (size : Int) (st : Value) (err : Int) (tag : Int × Int) (A : Option Addr) (n c : Nat) (w : World)
    (hB : Blk w g 109 (mcells client op round need k0 k1 k2 k3 v wr bl size st)) :
    Calls Try.prog 89 #[.pointer (some ⟨g, 0, Option.none⟩), .agg (resCells err tag (.slice A n c)).toArray] w fun e w' => e = .returned (.slice Option.none 0 0) ∧
      Blk w' g 109 (mcells client op round need k0 k1 k2 k3 v wr bl size (endV err tag (.slice A n c))) ∧ Keeps (One g) w w' := by
  obtain ⟨t1, t2⟩ := tag
  simp only [resCells, endV]
  have kX := (Keeps.refl None w).alloc (.cells #[.int .i64 err, .string ⟨#[]⟩, .int .i64 0, .int .i64 0, .int .i64 0, .slice Option.none 0 0, .slice A n c, .int .i64 0, .int .i64 t1, .int .i64 t2, .int .i64 0] 46)
  have hB1 := hB.grew kX
  have c12 := hB1.cell 12 _ rfl
  have f12 := hB1.free 12
  go_enter Try.func89, Try.ntmps89
  go_wp2_with fail
  go_ret
  have hB2 := hB1.set 12 (.iface 165 (.agg #[.int .i64 err, .string ⟨#[]⟩, .int .i64 0, .int .i64 0, .int .i64 0, .slice Option.none 0 0, .slice A n c, .int .i64 0, .int .i64 t1, .int .i64 t2, .int .i64 0]))
  refine ⟨rfl, hB2, kX.of_none.setCell _ _ (fun _ => rfl)⟩
end Go.Proofs.Ytcihfjfbcfgidaa
