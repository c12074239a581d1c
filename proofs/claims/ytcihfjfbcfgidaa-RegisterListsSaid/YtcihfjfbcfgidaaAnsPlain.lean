/- A message's cells; a machine's answer to a value, in plain terms. -/
import Derived.Test.YtcihfjfbcfgidaaFuncs
namespace Go.Proofs.Ytcihfjfbcfgidaa
open Go.RowKit Go.Maps

/-- A message. -/
structure Ms where
  kind : Int
  fc : Bool
  fi : Int
  tc : Bool
  ti : Int
  op : Int
  rd : Int
  q0 : Int
  q1 : Int
  q2 : Int
  q3 : Int
  s1 : Int
  s2 : Int
  h1 : Int
  h2 : Int
  A : Option Addr
  cap : Nat
  zs : List Int
  c0 : Int
  c1 : Int
  c2 : Int
  nm : ByteArray
  c3 : Int
  c4 : Int
  c5 : Int
  c6 : Int
  c7 : Int
  up : Int
  E : Option Addr
  en : Nat
  ec : Nat
  L : Option Addr
  ln : Nat
  lc : Nat
  D : Option Addr
  dn : Nat
  dc : Nat
  more : Bool
def Ms.val (x : Ms) : Value := .agg #[.int .i64 x.kind, .bool x.fc, .int .i64 x.fi, .bool x.tc, .int .i64 x.ti, .int .i64 x.op, .int .i64 x.rd, .int .i64 x.q0, .int .i64 x.q1, .int .i64 x.q2, .int .i64 x.q3, .int .i64 x.s1, .int .i64 x.s2, .int .i64 x.h1, .int .i64 x.h2, .slice x.A x.zs.length x.cap, .int .i64 x.c0, .int .i64 x.c1, .int .i64 x.c2, .string x.nm, .int .i64 x.c3, .int .i64 x.c4, .int .i64 x.c5, .int .i64 x.c6, .int .i64 x.c7, .int .i64 x.up, .slice x.E x.en x.ec, .slice x.L x.ln x.lc, .slice x.D x.dn x.dc, .bool x.more]

/-! ### In plain terms -/
def lookA (qs : List Ans) (s : Int) : Option Ans := qs.find? (fun q => q.s == s)
def takesA (grp : List Int) (need : Int) (qs : List Ans) (s : Int) : Bool := !(lookA qs s).isSome && !(decide (need ≤ (qs.length : Int))) && decide (s ∈ grp)
/-- The answers that count, in the group's order. -/
def ansA (grp : List Int) (qs : List Ans) : List Ans := grp.filterMap (lookA qs)
/-- The first of that tag. -/
def dataA (l : List Ans) (g : Int × Int) : List Int := match l.find? (fun q => decide (q.st = g)) with | some q => q.ds | none => []
/-- Behind the last value that is needed. -/
def secondF (h : Hd) (round : Int) (l : List Ans) : Int × Ph × OutS :=
  let g := bestOf (l.map (·.st))
  if h.wr = true ∧ 1099511627776 ≤ g.1 then (round, .ended 4 (0, 0) [], .no)
  else
    let tag := if h.wr then (wrap64 (g.1 + 1), h.client) else g
    let data := if h.wr then h.blk else if g = (0, 0) then List.replicate h.size.toNat 0 else dataA l g
    if h.wr = false ∧ anyUnlike (l.map (·.st)) g = false then (round, .ended 0 g data, .no)
    else if 1099511627776 ≤ round then (round, .ended 4 (0, 0) [], .no)
    else (round + 1, .laying [] tag data, .msgs 2 (round + 1) tag data h.grp)
/-- A message that fits, while values are asked for. -/
def askF (h : Hd) (round : Int) (qs : List Ans) (kind s : Int) (st : Int × Int) (ds : List Int) : Int × Ph × OutS :=
  if kind ≠ 11 ∨ takesA h.grp h.need qs s = false then (round, .asking qs, .no)
  else if ¬ (h.need ≤ (qs.length : Int) + 1) then (round, .asking (qs ++ [⟨s, st, ds⟩]), .no)
  else secondF h round (ansA h.grp (qs ++ [⟨s, st, ds⟩]))

theorem lookV_pair (rs : List Rec) (s : Int) : TG.lookV (rs.map Rec.pair) s = (rs.find? (fun r => r.s == s)).map (fun r => blkV r.st r.dv) := by
  unfold TG.lookV
  rw [List.find?_map]
  simp only [Option.map_map]
  rfl
theorem lookA_ans (rs : List Rec) (s : Int) : lookA (rs.map Rec.ans) s = (rs.find? (fun r => r.s == s)).map Rec.ans := by
  unfold lookA
  rw [List.find?_map]
  rfl
theorem takes_eq (grp : List Int) (need : Int) (rs : List Rec) (s : Int) : TG.takes grp need (rs.map Rec.pair) s = takesA grp need (rs.map Rec.ans) s := by
  unfold TG.takes takesA
  rw [lookV_pair, lookA_ans]
  simp
/-- What the program's Got goes over, in plain terms. -/
def recsA (grp : List Int) (rs : List Rec) : List Rec := grp.filterMap fun s => rs.find? (fun r => r.s == s)
theorem recsA_ans (grp : List Int) (rs : List Rec) : (recsA grp rs).map Rec.ans = ansA grp (rs.map Rec.ans) := by
  unfold recsA ansA
  rw [List.map_filterMap]
  congr 1
  funext s
  rw [lookA_ans]
theorem recsA_val (grp : List Int) (rs : List Rec) : (recsA grp rs).map (fun r => blkV r.st r.dv) = TG.ansF grp (rs.map Rec.pair) := by
  unfold recsA TG.ansF
  rw [List.map_filterMap]
  congr 1
  funext s
  rw [lookV_pair]
theorem recsA_mem {grp : List Int} {rs : List Rec} {r : Rec} (h : r ∈ recsA grp rs) : r ∈ rs := by
  unfold recsA at h
  obtain ⟨s, _, hs⟩ := List.mem_filterMap.1 h
  exact List.mem_of_find?_eq_some hs
end Go.Proofs.Ytcihfjfbcfgidaa
