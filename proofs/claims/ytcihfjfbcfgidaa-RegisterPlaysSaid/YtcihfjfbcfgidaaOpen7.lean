/- What a row tells of an argument that is a slice of steps: messages with bytes, entries, lasts and commands inside. -/
import Derived.Test.YtcihfjfbcfgidaaBlocks
import Derived.Test.YtcihfjfbcfgidaaSameM
set_option linter.unusedVariables false
namespace Go.Proofs.Ytcihfjfbcfgidaa
open Go.ChangeShapes Go.WideShapes Go.ChangeAt Go.RowKit

theorem glue {cs p rest : List Value} {a b : Nat} (h : (cs.drop a).take b = p) (hr : cs.drop (a + b) = rest) : cs.drop a = p ++ rest := by
  rw [← h, ← hr, ← List.drop_drop, List.take_append_drop]
theorem cellsS : Try.prog.cellsOf 9 = 1 := by kernel_rfl
theorem cellsBo : Try.prog.cellsOf 4 = 1 := by kernel_rfl

/-- One field of a struct: its cells, and what lies in it weighs no more than the whole. -/
theorem trod_field {H : Type} {enc : TypeId × Value → H} {P : Program} {w : World} {base : Nat} {spare : Nat → Bool} {held : Bool} {t : TypeId} {fs : Array Field} {fuel : Nat} {cs : List Value} {x : DataW H × List MemPlace} (hu : P.underlying t = some (.struct fs))
    (h : DataW.trod enc P w base spare held fuel t cs = some x) (hw : ∀ n ∈ x.1.weights P t, n ≤ reachBytes) (i : Nat) (ty off sz : Nat) (hf : (fs[i]?.map fun f => (f.type, f.offset)) = some (ty, off)) (hs : P.cellsOf ty = sz) :
    ∃ y n, DataW.trod enc P w base spare held n ty ((cs.drop off).take sz) = some y ∧ ∀ n ∈ y.1.weights P ty, n ≤ reachBytes := by
  obtain ⟨xs, n, _, rfl, hl, hlen, hff⟩ := DataW.trod_struct hu h
  cases hfi : fs[i]? with
  | none => rw [hfi] at hf; cases hf
  | some f =>
    rw [hfi] at hf
    obtain ⟨rfl, rfl⟩ := Prod.mk.inj (Option.some.inj hf)
    have hi : i < xs.length := by rw [hlen]; exact (Array.getElem?_eq_some_iff.1 hfi).1
    refine ⟨xs[i], n, ?_, fun m hm => hw m ?_⟩
    · rw [← hs, hff i f hfi, List.getElem?_eq_getElem hi]
    · simp only [DataW.weights, hu]
      exact DataW.weights_mem_each (j := i) (by simp [hfi]) (by simp [hi]) m hm

section
variable {H : Type} {enc : TypeId × Value → H} {w : World} {base : Nat} {spare : Nat → Bool} {held : Bool} {t : TypeId} {fs : Array Field} {fuel : Nat} {cs : List Value} {x : DataW H × List MemPlace}
theorem field_int (hu : Try.prog.underlying t = some (.struct fs)) (h : DataW.trod enc Try.prog w base spare held fuel t cs = some x) (hw : ∀ n ∈ x.1.weights Try.prog t, n ≤ reachBytes) (i : Nat) (ty off : Nat) (hf : (fs[i]?.map fun f => (f.type, f.offset)) = some (ty, off)) (hs : Try.prog.cellsOf ty = 1) (hi : Try.prog.underlying ty = some (.int .i64)) :
    ∃ v : Int, (cs.drop off).take 1 = [.int .i64 v] ∧ IntV v := by
  obtain ⟨y, n, h1, h2⟩ := trod_field hu h hw i ty off 1 hf hs
  obtain ⟨v, r, -, wf⟩ := DataW.trod_int (k := .i64) hi h1
  exact ⟨v, r, wf⟩
theorem field_bool (hu : Try.prog.underlying t = some (.struct fs)) (h : DataW.trod enc Try.prog w base spare held fuel t cs = some x) (hw : ∀ n ∈ x.1.weights Try.prog t, n ≤ reachBytes) (i : Nat) (off : Nat) (hf : (fs[i]?.map fun f => (f.type, f.offset)) = some (4, off)) :
    ∃ v : Bool, (cs.drop off).take 1 = [.bool v] := by
  obtain ⟨y, n, h1, h2⟩ := trod_field hu h hw i 4 off 1 hf cellsBo
  obtain ⟨v, r, -⟩ := DataW.trod_bool Try.underlying4 h1
  exact ⟨v, r⟩
theorem field_str (hu : Try.prog.underlying t = some (.struct fs)) (h : DataW.trod enc Try.prog w base spare held fuel t cs = some x) (hw : ∀ n ∈ x.1.weights Try.prog t, n ≤ reachBytes) (i : Nat) (off : Nat) (hf : (fs[i]?.map fun f => (f.type, f.offset)) = some (9, off)) :
    ∃ v : ByteArray, (cs.drop off).take 1 = [.string v] := by
  obtain ⟨y, n, h1, h2⟩ := trod_field hu h hw i 9 off 1 hf cellsS
  obtain ⟨v, r, -⟩ := DataW.trod_string Try.underlying9 h1
  exact ⟨v, r⟩
/-- A struct of two numbers. -/
theorem trod_two (hu : Try.prog.underlying t = some (.struct fs)) (hc : Try.prog.cellsOf t = 2) (h : DataW.trod enc Try.prog w base spare held fuel t cs = some x) (hw : ∀ n ∈ x.1.weights Try.prog t, n ≤ reachBytes) (hl : cs.length = 2)
    (f0 : (fs[0]?.map fun f => (f.type, f.offset)) = some (3, 0)) (f1 : (fs[1]?.map fun f => (f.type, f.offset)) = some (3, 1)) : ∃ a b : Int, cs = [.int .i64 a, .int .i64 b] := by
  obtain ⟨a, r0, -⟩ := field_int hu h hw 0 _ _ f0 cellsI Try.underlying3
  obtain ⟨b, r1, -⟩ := field_int hu h hw 1 _ _ f1 cellsI Try.underlying3
  exact ⟨a, b, glue r0 (glue r1 (List.drop_eq_nil_of_le (by omega)))⟩
theorem trod_file (h : DataW.trod enc Try.prog w base spare held fuel 41 cs = some x) (hw : ∀ n ∈ x.1.weights Try.prog 41, n ≤ reachBytes) (hl : cs.length = 2) : ∃ a b : Int, cs = [.int .i64 a, .int .i64 b] :=
  trod_two Try.underlying41 (by kernel_rfl) h hw hl (by kernel_rfl) (by kernel_rfl)
theorem cellsFi : Try.prog.cellsOf 41 = 2 := by kernel_rfl
theorem trod_len (h : DataW.trod enc Try.prog w base spare held fuel t cs = some x) (hu : Try.prog.underlying t = some (.struct fs)) {sz : Nat} (hc : Try.prog.cellsOf t = sz) : cs.length = sz := by
  obtain ⟨_, _, _, _, hl, _⟩ := DataW.trod_struct hu h
  omega
theorem trod_ent (h : DataW.trod enc Try.prog w base spare held fuel 43 cs = some x) (hw : ∀ n ∈ x.1.weights Try.prog 43, n ≤ reachBytes) : ∃ y : Ent, cs = y.cells := by
  have hu := Try.underlying43
  have hl := trod_len h hu (sz := 4) (by kernel_rfl)
  obtain ⟨nm, r0⟩ := field_str hu h hw 0 0 (by kernel_rfl)
  obtain ⟨y, n, h1, h2⟩ := trod_field hu h hw 1 41 1 2 (by kernel_rfl) cellsFi
  obtain ⟨a, b, r1⟩ := trod_file h1 h2 (by simp; omega)
  obtain ⟨c, r2, -⟩ := field_int hu h hw 2 3 3 (by kernel_rfl) cellsI Try.underlying3
  exact ⟨⟨nm, a, b, c⟩, glue r0 (glue r1 (glue r2 (List.drop_eq_nil_of_le (by omega))))⟩
theorem trod_las (h : DataW.trod enc Try.prog w base spare held fuel 133 cs = some x) (hw : ∀ n ∈ x.1.weights Try.prog 133, n ≤ reachBytes) : ∃ y : Las, cs = y.cells := by
  have hu := Try.underlying133
  have hl := trod_len h hu (sz := 7) (by kernel_rfl)
  obtain ⟨a, r0, -⟩ := field_int hu h hw 0 3 0 (by kernel_rfl) cellsI Try.underlying3
  obtain ⟨b, r1, -⟩ := field_int hu h hw 1 3 1 (by kernel_rfl) cellsI Try.underlying3
  obtain ⟨c, r2, -⟩ := field_int hu h hw 2 3 2 (by kernel_rfl) cellsI Try.underlying3
  obtain ⟨d, r3, -⟩ := field_int hu h hw 3 39 3 (by kernel_rfl) (by kernel_rfl) Try.underlying39
  obtain ⟨y, n, h1, h2⟩ := trod_field hu h hw 4 41 4 2 (by kernel_rfl) cellsFi
  obtain ⟨e, f, r4⟩ := trod_file h1 h2 (by simp; omega)
  obtain ⟨g, r5, -⟩ := field_int hu h hw 5 3 6 (by kernel_rfl) cellsI Try.underlying3
  exact ⟨⟨a, b, c, d, e, f, g⟩, glue r0 (glue r1 (glue r2 (glue r3 (glue r4 (glue r5 (List.drop_eq_nil_of_le (by omega)))))))⟩
theorem trod_com (h : DataW.trod enc Try.prog w base spare held fuel 60 cs = some x) (hw : ∀ n ∈ x.1.weights Try.prog 60, n ≤ reachBytes) : ∃ y : Com, cs = y.cells := by
  have hu := Try.underlying60
  have hl := trod_len h hu (sz := 9) (by kernel_rfl)
  obtain ⟨a, r0, -⟩ := field_int hu h hw 0 3 0 (by kernel_rfl) cellsI Try.underlying3
  obtain ⟨b, r1, -⟩ := field_int hu h hw 1 3 1 (by kernel_rfl) cellsI Try.underlying3
  obtain ⟨c, r2, -⟩ := field_int hu h hw 2 3 2 (by kernel_rfl) cellsI Try.underlying3
  obtain ⟨nm, r3⟩ := field_str hu h hw 3 3 (by kernel_rfl)
  obtain ⟨y, n, h1, h2⟩ := trod_field hu h hw 4 41 4 2 (by kernel_rfl) cellsFi
  obtain ⟨d, e, r4⟩ := trod_file h1 h2 (by simp; omega)
  obtain ⟨y', n', h1', h2'⟩ := trod_field hu h hw 5 41 6 2 (by kernel_rfl) cellsFi
  obtain ⟨f, g, r5⟩ := trod_file h1' h2' (by simp; omega)
  obtain ⟨i, r6, -⟩ := field_int hu h hw 6 3 8 (by kernel_rfl) cellsI Try.underlying3
  exact ⟨⟨a, b, c, nm, d, e, f, g, i⟩, glue r0 (glue r1 (glue r2 (glue r3 (glue r4 (glue r5 (glue r6 (List.drop_eq_nil_of_le (by omega))))))))⟩
theorem trod_adr (h : DataW.trod enc Try.prog w base spare held fuel 58 cs = some x) (hw : ∀ n ∈ x.1.weights Try.prog 58, n ≤ reachBytes) : ∃ (b : Bool) (i : Int), cs = [.bool b, .int .i64 i] ∧ IntV i := by
  have hu := Try.underlying58
  have hl := trod_len h hu (sz := 2) (by kernel_rfl)
  obtain ⟨b, r0⟩ := field_bool hu h hw 0 0 (by kernel_rfl)
  obtain ⟨i, r1, wi⟩ := field_int hu h hw 1 3 1 (by kernel_rfl) cellsI Try.underlying3
  exact ⟨b, i, glue r0 (glue r1 (List.drop_eq_nil_of_le (by omega))), wi⟩
theorem trod_stp (h : DataW.trod enc Try.prog w base spare held fuel 23 cs = some x) (hw : ∀ n ∈ x.1.weights Try.prog 23, n ≤ reachBytes) : ∃ a b : Int, cs = [.int .i64 a, .int .i64 b] := by
  have hl := trod_len h Try.underlying23 (sz := 2) (by kernel_rfl)
  exact trod_two Try.underlying23 (by kernel_rfl) h hw hl (by kernel_rfl) (by kernel_rfl)
theorem trod_key (h : DataW.trod enc Try.prog w base spare held fuel 51 cs = some x) (hw : ∀ n ∈ x.1.weights Try.prog 51, n ≤ reachBytes) : ∃ a b c d : Int, cs = [.int .i64 a, .int .i64 b, .int .i64 c, .int .i64 d] := by
  have hu := Try.underlying51
  have hl := trod_len h hu (sz := 4) (by kernel_rfl)
  obtain ⟨a, r0, -⟩ := field_int hu h hw 0 3 0 (by kernel_rfl) cellsI Try.underlying3
  obtain ⟨b, r1, -⟩ := field_int hu h hw 1 3 1 (by kernel_rfl) cellsI Try.underlying3
  obtain ⟨c, r2, -⟩ := field_int hu h hw 2 3 2 (by kernel_rfl) cellsI Try.underlying3
  obtain ⟨d, r3, -⟩ := field_int hu h hw 3 3 3 (by kernel_rfl) cellsI Try.underlying3
  exact ⟨a, b, c, d, glue r0 (glue r1 (glue r2 (glue r3 (List.drop_eq_nil_of_le (by omega)))))⟩

/-- A slice of structs, wherever it lies. -/
theorem trod_rows {α : Type} [Inhabited α] (cells : α → List Value) {e : TypeId} {sz bytes : Nat} (hcl : ∀ y, (cells y).length = sz) (hsz : 0 < sz) (hu : Try.prog.underlying t = some (.slice e)) (hc : Try.prog.cellsOf e = sz) (hb : Try.prog.bytesOf e = bytes) (G : α → Prop)
    (ok : ∀ fuel cs x, DataW.trod enc Try.prog w base spare held fuel e cs = some x → (∀ n ∈ x.1.weights Try.prog e, n ≤ reachBytes) → ∃ y, cs = cells y ∧ G y)
    (h : DataW.trod enc Try.prog w base spare held fuel t cs = some x) (hw : ∀ n ∈ x.1.weights Try.prog t, n ≤ reachBytes) :
    ∃ (a : Option Addr) (len cap : Nat) (l : List α), cs = [.slice a len cap] ∧ l.length = len ∧ (∀ (j : Nat) x, l[j]? = some x → ∃ b o, a = some ⟨b, o, Option.none⟩ ∧ ∀ (i : Nat) v, (cells x)[i]? = some v → w.cell? ⟨b, o + j * sz + i, Option.none⟩ = some v) ∧ (∀ x ∈ l, G x) ∧ len * bytes ≤ reachBytes ∧ len ≤ cap ∧ (a = Option.none → cap = 0) := by
  rcases Deep.open_slice hu h with ⟨hcs, _⟩ | ⟨z, len, cap, m, n, D, Pl, hcs, _, hl, hm, hmm, hx, hel⟩
  · exact ⟨Option.none, 0, 0, [], hcs, rfl, fun j x hx => by simp at hx, by simp, by omega, Nat.le_refl _, fun _ => rfl⟩
  · have hlm : len ≤ m := by rw [hmm]; split <;> omega
    have key : ∀ i, i < len → ∃ y : α, G y ∧ ∃ b o, z = ⟨b, o, Option.none⟩ ∧ ∀ (q : Nat) v, (cells y)[q]? = some v → w.cell? ⟨b, o + i * sz + q, Option.none⟩ = some v := by
      intro i hi
      obtain ⟨cs', h1, h2⟩ := hel i (by omega)
      rw [hc] at h1
      obtain ⟨_, hcl', hcell⟩ := World.cells?_some h1
      obtain ⟨y, rfl, hy⟩ := ok _ _ _ h2 (fun n hn => by
        refine hw n ?_
        rw [hx]
        exact weights_elem hu (List.mem_map.2 ⟨i, by simpa using hi, rfl⟩) hn)
      obtain ⟨b, off, spot⟩ := z
      have hspot : spot = Option.none := by
        obtain ⟨cs0, p1, _⟩ := hel 0 (by omega)
        rw [hc] at p1
        obtain ⟨_, pl, pc⟩ := World.cells?_some p1
        have p0 := pc 0 hsz
        rw [List.getElem?_eq_getElem (by omega)] at p0
        simpa [Addr.add] using World.cell?_spot p0
      subst hspot
      refine ⟨y, hy, b, off, rfl, fun q v hv => ?_⟩
      have hq : q < sz := by have := (List.getElem?_eq_some_iff.1 hv).1; rw [hcl] at this; exact this
      have kq := hcell q hq
      rw [Addr.add_lit, Addr.add_lit] at kq
      rw [kq]
      exact hv
    obtain ⟨F, hF⟩ := Deep.choose_lt key
    refine ⟨_, _, _, (List.range len).map F, hcs, by simp, ?_, ?_, ?_, hl, fun e => by cases e⟩
    · intro j y hy
      have hj : j < len := by have := (List.getElem?_eq_some_iff.1 hy).1; simpa using this
      have e1 : F j = y := by simpa [hj] using hy
      obtain ⟨-, b, o, e, h1⟩ := hF j hj
      rw [← e1, e]
      exact ⟨b, o, rfl, h1⟩
    · intro y hy
      obtain ⟨j, hj, rfl⟩ := List.mem_map.1 hy
      exact (hF j (by simpa using hj)).1
    · have := hw _ (by rw [hx]; simp only [DataW.weights, hu]; exact List.mem_cons_self ..)
      rw [hb] at this
      refine Nat.le_trans (Nat.mul_le_mul_right _ ?_) this
      simp
theorem trod_bytes (h : DataW.trod enc Try.prog w base spare held fuel 24 cs = some x) (hw : ∀ n ∈ x.1.weights Try.prog 24, n ≤ reachBytes) :
    ∃ (a : Option Addr) (len cap : Nat) (zs : List Int), cs = [.slice a len cap] ∧ zs.length = len ∧ Nums .u8 w a zs ∧ len ≤ 140737488351232 := by
  obtain ⟨a, l, c, zs, r, g1, g2, g3, g4, g5, g6⟩ := open_bytes_at Try.underlying24 Try.underlying5 (by kernel_rfl) h
  subst r
  exact ⟨a, l, c, zs, rfl, g1, g2, len_of_weights Try.underlying24 Try.underlying5 (by kernel_rfl) (of_decide_eq_true (by kernel_rfl)) h hw⟩
end

instance : Inhabited Ent := ⟨⟨⟨#[]⟩, 0, 0, 0⟩⟩
instance : Inhabited Las := ⟨⟨0, 0, 0, 0, 0, 0, 0⟩⟩
instance : Inhabited Com := ⟨⟨0, 0, 0, ⟨#[]⟩, 0, 0, 0, 0, 0⟩⟩
/-- A step: its kind and its message. -/
structure Sp where
  kind : Int
  mkd : Int
  fc : Bool
  fi : Int
  tc : Bool
  ti : Int
  op : Int
  rd : Int
  q0 : Int
  q1 : Int
  q2 : Int
  q3 : Int
  s1 : Int
  s2 : Int
  h1 : Int
  h2 : Int
  A : Option Addr
  n : Nat
  cap : Nat
  zs : List Int
  c0 : Int
  c1 : Int
  c2 : Int
  nm : ByteArray
  c3 : Int
  c4 : Int
  c5 : Int
  c6 : Int
  c7 : Int
  up : Int
  E : Option Addr
  en : Nat
  ec : Nat
  el : List Ent
  L : Option Addr
  ln : Nat
  lc : Nat
  ll : List Las
  D : Option Addr
  dn : Nat
  dc : Nat
  dl : List Com
  more : Bool
instance : Inhabited Sp := ⟨⟨0, 0, false, 0, false, 0, 0, 0, 0, 0, 0, 0, 0, 0, 0, 0, Option.none, 0, 0, [], 0, 0, 0, ⟨#[]⟩, 0, 0, 0, 0, 0, 0, Option.none, 0, 0, [], Option.none, 0, 0, [], Option.none, 0, 0, [], false⟩⟩
def Sp.cells (x : Sp) : List Value := [.int .i64 x.kind, .int .i64 x.mkd, .bool x.fc, .int .i64 x.fi, .bool x.tc, .int .i64 x.ti, .int .i64 x.op, .int .i64 x.rd, .int .i64 x.q0, .int .i64 x.q1, .int .i64 x.q2, .int .i64 x.q3, .int .i64 x.s1, .int .i64 x.s2, .int .i64 x.h1, .int .i64 x.h2, .slice x.A x.n x.cap, .int .i64 x.c0, .int .i64 x.c1, .int .i64 x.c2, .string x.nm, .int .i64 x.c3, .int .i64 x.c4, .int .i64 x.c5, .int .i64 x.c6, .int .i64 x.c7, .int .i64 x.up, .slice x.E x.en x.ec, .slice x.L x.ln x.lc, .slice x.D x.dn x.dc, .bool x.more]
/-- What of a step lies in memory. -/
structure Sp.Raw (w : World) (x : Sp) : Prop where
  nums : Nums .u8 w x.A x.zs
  len : x.zs.length = x.n
  most : x.n ≤ 140737488351232
  fi : IntV x.fi
  ents : Ents w x.E x.el
  elen : x.el.length = x.en
  enil : x.E = Option.none → x.ec = 0
  emost : x.en * 40 ≤ 140737488351232
  lass : Lass w x.L x.ll
  llen : x.ll.length = x.ln
  lnil : x.L = Option.none → x.lc = 0
  lmost : x.ln * 56 ≤ 140737488351232
  coms : Coms w x.D x.dl
  dlen : x.dl.length = x.dn
  dnil : x.D = Option.none → x.dc = 0
  dmost : x.dn * 80 ≤ 140737488351232
def SpsAt (w : World) (A : Option Addr) (l : List Sp) : Prop := ∀ (j : Nat) x, l[j]? = some x → ∃ b o, A = some ⟨b, o, Option.none⟩ ∧ ∀ (i : Nat) v, x.cells[i]? = some v → w.cell? ⟨b, o + j * 31 + i, Option.none⟩ = some v

section
variable {H : Type} {enc : TypeId × Value → H} {w : World} {base : Nat} {spare : Nat → Bool} {held : Bool} {t : TypeId} {fs : Array Field} {fuel : Nat} {cs : List Value} {x : DataW H × List MemPlace}
set_option maxRecDepth 100000 in
theorem trod_step (h : DataW.trod enc Try.prog w base spare held fuel 80 cs = some x) (hw : ∀ n ∈ x.1.weights Try.prog 80, n ≤ reachBytes) : ∃ y : Sp, cs = y.cells ∧ y.Raw w := by
  have hu := Try.underlying80
  have hl := trod_len h hu (sz := 31) (by kernel_rfl)
  obtain ⟨kind, r, -⟩ := field_int hu h hw 0 3 0 (by kernel_rfl) cellsI Try.underlying3
  obtain ⟨xm, nm', hm, hmw⟩ := trod_field hu h hw 1 66 1 30 (by kernel_rfl) (by kernel_rfl)
  have hM := Try.underlying66
  obtain ⟨ms, hms⟩ : ∃ ms, ms = (cs.drop 1).take 30 := ⟨_, rfl⟩
  rw [← hms] at hm
  have hml := trod_len hm hM (sz := 30) (by kernel_rfl)
  obtain ⟨mk, r0, -⟩ := field_int hM hm hmw 0 3 0 (by kernel_rfl) cellsI Try.underlying3
  obtain ⟨y1, _, g1, g1'⟩ := trod_field hM hm hmw 1 58 1 2 (by kernel_rfl) (by kernel_rfl)
  obtain ⟨fc, fi, r1, wfi⟩ := trod_adr g1 g1'
  obtain ⟨y2, _, g2, g2'⟩ := trod_field hM hm hmw 2 58 3 2 (by kernel_rfl) (by kernel_rfl)
  obtain ⟨tc, ti, r2, -⟩ := trod_adr g2 g2'
  obtain ⟨op, r3, -⟩ := field_int hM hm hmw 3 3 5 (by kernel_rfl) cellsI Try.underlying3
  obtain ⟨rd, r4, -⟩ := field_int hM hm hmw 4 3 6 (by kernel_rfl) cellsI Try.underlying3
  obtain ⟨y5, _, g5, g5'⟩ := trod_field hM hm hmw 5 51 7 4 (by kernel_rfl) (by kernel_rfl)
  obtain ⟨q0, q1, q2, q3, r5⟩ := trod_key g5 g5'
  obtain ⟨y6, _, g6, g6'⟩ := trod_field hM hm hmw 6 23 11 2 (by kernel_rfl) (by kernel_rfl)
  obtain ⟨s1, s2, r6⟩ := trod_stp g6 g6'
  obtain ⟨y7, _, g7, g7'⟩ := trod_field hM hm hmw 7 23 13 2 (by kernel_rfl) (by kernel_rfl)
  obtain ⟨h1, h2, r7⟩ := trod_stp g7 g7'
  obtain ⟨y8, _, g8, g8'⟩ := trod_field hM hm hmw 8 24 15 1 (by kernel_rfl) (by kernel_rfl)
  obtain ⟨A, n, cap, zs, r8, a1, a2, a3⟩ := trod_bytes g8 g8'
  obtain ⟨y9, _, g9, g9'⟩ := trod_field hM hm hmw 9 60 16 9 (by kernel_rfl) (by kernel_rfl)
  obtain ⟨⟨c0, c1, c2, nm, c3, c4, c5, c6, c7⟩, r9⟩ := trod_com g9 g9'
  obtain ⟨y10, _, g10, g10'⟩ := trod_field hM hm hmw 10 63 25 3 (by kernel_rfl) (by kernel_rfl)
  have hB := Try.underlying63
  obtain ⟨bs, hbs⟩ : ∃ bs, bs = (ms.drop 25).take 3 := ⟨_, rfl⟩
  rw [← hbs] at g10
  have hbl := trod_len g10 hB (sz := 3) (by kernel_rfl)
  obtain ⟨up, b0, -⟩ := field_int hB g10 g10' 0 3 0 (by kernel_rfl) cellsI Try.underlying3
  obtain ⟨ye, _, ge, ge'⟩ := trod_field hB g10 g10' 1 44 1 1 (by kernel_rfl) (by kernel_rfl)
  obtain ⟨E, en, ec, el, b1, e1, e2, -, e3, -, e4⟩ := trod_rows Ent.cells (sz := 4) (bytes := 40) (fun _ => rfl) (by omega) Try.underlying44 (by kernel_rfl) (by kernel_rfl) (fun _ => True) (fun _ _ _ h hw => by obtain ⟨y, hy⟩ := trod_ent h hw; exact ⟨y, hy, trivial⟩) ge ge'
  obtain ⟨yl, _, gl, gl'⟩ := trod_field hB g10 g10' 2 61 2 1 (by kernel_rfl) (by kernel_rfl)
  obtain ⟨L, ln, lc, ll, b2, l1, l2, -, l3, -, l4⟩ := trod_rows Las.cells (sz := 7) (bytes := 56) (fun _ => rfl) (by omega) Try.underlying61 (by kernel_rfl) (by kernel_rfl) (fun _ => True) (fun _ _ _ h hw => by obtain ⟨y, hy⟩ := trod_las h hw; exact ⟨y, hy, trivial⟩) gl gl'
  obtain ⟨yd, _, gd, gd'⟩ := trod_field hM hm hmw 11 64 28 1 (by kernel_rfl) (by kernel_rfl)
  obtain ⟨D, dn, dc, dl, r11, d1, d2, -, d3, -, d4⟩ := trod_rows Com.cells (sz := 9) (bytes := 80) (fun _ => rfl) (by omega) Try.underlying64 (by kernel_rfl) (by kernel_rfl) (fun _ => True) (fun _ _ _ h hw => by obtain ⟨y, hy⟩ := trod_com h hw; exact ⟨y, hy, trivial⟩) gd gd'
  obtain ⟨more, r12⟩ := field_bool hM hm hmw 12 29 (by kernel_rfl)
  have r10 : (ms.drop 25).take 3 = _ := hbs.symm.trans (glue b0 (glue b1 (glue b2 (List.drop_eq_nil_of_le (by omega)))))
  have rm : (cs.drop 1).take 30 = _ := hms.symm.trans (glue r0 (glue r1 (glue r2 (glue r3 (glue r4 (glue r5 (glue r6 (glue r7 (glue r8 (glue r9 (glue r10 (glue r11 (glue r12 (List.drop_eq_nil_of_le (by omega)))))))))))))))
  have hR : reachBytes = 140737488351232 := rfl
  refine ⟨⟨kind, mk, fc, fi, tc, ti, op, rd, q0, q1, q2, q3, s1, s2, h1, h2, A, n, cap, zs, c0, c1, c2, nm, c3, c4, c5, c6, c7, up, E, en, ec, el, L, ln, lc, ll, D, dn, dc, dl, more⟩, (glue r (glue rm (List.drop_eq_nil_of_le (by omega)))), ⟨a2, a1, a3, wfi, e2, e1, e4, by rw [hR] at e3; exact e3, l2, l1, l4, by rw [hR] at l3; exact l3, d2, d1, d4, by rw [hR] at d3; exact d3⟩⟩
end

set_option maxRecDepth 100000 in
theorem open_steps7 {H : Type} {enc : TypeId × Value → H} {W : World} {base : Nat} {spare : Nat → Bool} {held : Bool} {a : Option Addr} {len cap : Nat} {d : DataW H} {ps : List MemPlace} {ts : List TypeId} {ds : List (DataW H)} {j : Nat}
    (hsz : (DataW.weightsEach Try.prog ts ds).all (· ≤ reachBytes) = true) (ht : ts[j]? = some 72) (hd : ds[j]? = some d)
    (h : DataW.Trod enc Try.prog W base spare held 72 (.slice a len cap) d ps) :
    ∃ its : List Sp, its.length = len ∧ SpsAt W a its ∧ (∀ x ∈ its, x.Raw W) ∧ len ≤ 140737488351232 := by
  obtain ⟨fuel, hf⟩ := h
  have hf : DataW.trod enc Try.prog W base spare held fuel 72 [.slice a len cap] = some (d, ps) := by simpa [Value.cells] using hf
  obtain ⟨A, n, c, l, h0, h1, h2, h3, h4, -, -⟩ := trod_rows Sp.cells (sz := 31) (bytes := Try.prog.bytesOf 80) (fun _ => rfl) (by omega) Try.underlying72 (by kernel_rfl) rfl (Sp.Raw W) (fun _ _ _ h hw => trod_step h hw) hf (fun n hn => by
    have := List.all_eq_true.1 hsz _ (DataW.weights_mem_each ht hd n hn)
    simpa using this)
  simp only [List.cons.injEq, and_true, Value.slice.injEq] at h0
  obtain ⟨rfl, rfl, rfl⟩ := h0
  refine ⟨l, h1, h2, h3, ?_⟩
  have hB : 1 ≤ Try.prog.bytesOf 80 := of_decide_eq_true (by kernel_rfl)
  have hR : reachBytes = 140737488351232 := rfl
  have := Nat.mul_le_mul_left len hB
  omega
end Go.Proofs.Ytcihfjfbcfgidaa
