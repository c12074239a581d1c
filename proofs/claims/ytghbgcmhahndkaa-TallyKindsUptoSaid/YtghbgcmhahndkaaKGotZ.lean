/- The program's tally of tallies: Got, and what it hands back, ranged over. -/
import Derived.Test.YtghbgcmhahndkaaKindZ
import Derived.Test.YtghbgcmhahndkaaTallyGot
import Derived.Test.YtghbgcmhahndkaaRangeGood
import Derived.Test.YtghbgcmhahndkaaWLast
import Derived.Shelf.Abstract
import Derived.Maps.AppendAt
namespace Go.Proofs.Ytghbgcmhahndkaa.KZ
open Go.RowKit Go.Maps Go.Proofs.Ytghbgcmhahndkaa.TG Go.Proofs.YtghbgcmhahndkaaW.PrintLast
set_option linter.unusedVariables false

abbrev BV := Nat
def bval (x : BV) : Value := .pointer (some ⟨x, 0, Option.none⟩)
def bcells (x : BV) : List Value := [.pointer (some ⟨x, 0, Option.none⟩)]
theorem infoBk : (Try.prog.info? 49).map (fun i => (i.zero, i.size, i.bytes)) = some (some zeroB, 1, 8) := by kernel_rfl
theorem infoI : (Try.prog.info? 3).map (fun i => (i.zero, i.size, i.bytes)) = some (some (.int .i64 0), 1, 8) := by kernel_rfl
def Vals (w : World) (base : Nat) (v : Value) (bs : List BV) : Prop := w.ownsRow base 49 1 v bs.length (bs.flatMap bcells)
theorem owns_slice {w : World} {base e size n : Nat} {v : Value} {xs : List Value} (h : w.ownsRow base e size v n xs) : ∃ A c, v = .slice A n c := by
  rcases h.2 with ⟨rfl, h0⟩ | ⟨g, cap, cur, rfl, _⟩
  · exact ⟨Option.none, 0, by rw [h0]⟩
  · exact ⟨_, cap, rfl⟩
theorem Vals.raw {w : World} {base : Nat} {v : Value} {bs : List BV} (h : Vals w base v bs) : w.ownsRow base 49 1 v bs.length (bs.flatMap bcells) := h
theorem Vals.lt {w : World} {base : Nat} {v : Value} {bs : List BV} (h : Vals w base v bs) : ∀ g, v.ownBlock = some g → base ≤ g ∧ g < w.heap.size := World.ownsRow.lt h
theorem Vals.keeps {S : Nat → Prop} {w w' : World} {base : Nat} {v : Value} {bs : List BV} (h : Vals w base v bs) (hk : Keeps S w w') (hS : ∀ g, v.ownBlock = some g → ¬ S g) : Vals w' base v bs := owns_keeps h hk hS
theorem Vals.grew {w w' : World} {base : Nat} {v : Value} {bs : List BV} (h : Vals w base v bs) (hk : Keeps None w w') : Vals w' base v bs := owns_grew h hk
theorem Vals.slice {w : World} {base : Nat} {v : Value} {bs : List BV} (h : Vals w base v bs) : ∃ A c, v = .slice A bs.length c := owns_slice h
theorem Vals.snoc {w : World} {base : Nat} {v : Value} {bs : List BV} (x : BV) (h : w.ownsRow base 49 1 v (bs.length + 1) (bs.flatMap bcells ++ bcells x)) : Vals w base v (bs ++ [x]) := by
  unfold Vals; rw [List.length_append, List.flatMap_append]; simpa using h
theorem Vals.nil (w : World) (base : Nat) : Vals w base (.slice Option.none 0 0) [] := World.ownsRow_nil _ _ _ _
theorem flat_cells : ∀ (bs : List BV) (k : Nat) (x : BV) (i : Nat), bs[k]? = some x → i < 1 → (bs.flatMap bcells)[k * 1 + i]? = (bcells x)[i]? := by
  intro bs
  induction bs with
  | nil => intro k x i h; simp at h
  | cons y bs ih =>
    intro k x i h hi
    rw [List.flatMap_cons]
    have hl0 : (bcells y).length = 1 := rfl
    cases k with
    | zero =>
      simp at h
      subst h
      rw [Nat.zero_mul, Nat.zero_add, List.getElem?_append_left (by omega)]
    | succ k =>
      rw [List.getElem?_append_right (by omega), hl0]
      have e3 : (k + 1) * 1 + i - 1 = k * 1 + i := by omega
      rw [e3]
      exact ih k x i (by simpa using h) hi
/-- An element's cells. -/
theorem Vals.get {w : World} {base : Nat} {A : Option Addr} {n c : Nat} {bs : List BV} (h : Vals w base (.slice A n c) bs) (k : Nat) (x : BV) (hx : bs[k]? = some x) :
    ∃ b, A = some ⟨b, 0, Option.none⟩ ∧ base ≤ b ∧ b < w.heap.size ∧ ∀ i, i < 1 → w.cell? ⟨b, k * 1 + i, Option.none⟩ = (bcells x)[i]? := by
  have hlt := h.lt
  obtain ⟨hk, -⟩ := List.getElem?_eq_some_iff.1 hx
  rcases h.2 with ⟨e, h0⟩ | ⟨g, cap, cur, e, hb, hg, hn, hc, hs, ht⟩
  · omega
  · cases e
    refine ⟨g, rfl, hb, (hlt g rfl).2, ?_⟩
    intro i hi
    rw [cell_of_row w g _ cur 49 (0, 0) hg]
    have e1 : (cur.toList.take (bs.length * 1))[k * 1 + i]? = (bs.flatMap bcells)[k * 1 + i]? := by rw [ht]
    have hjm : k * 1 + i < bs.length * 1 := by omega
    rw [List.getElem?_take, if_pos hjm, Array.getElem?_toList] at e1
    rw [e1]
    exact flat_cells bs k x i hx hi
theorem oneCells (x : BV) : ∀ u ∈ bcells x, u.oneCell' = true := by
  intro u hu
  simp [bcells] at hu
  subst hu; rfl
theorem src_cells {w : World} {n t : Nat} {cs : List Value} (h : Blk w n t cs) : 0 < cs.length → ∃ ad, some (⟨n, 0, Option.none⟩ : Addr) = some ad ∧ ∀ j u, cs[j]? = some u → w.cell? (ad.add j) = some u :=
  fun _ => ⟨_, rfl, fun j u hu => by rw [Addr.add_lit, Nat.zero_add]; exact h.cell j u hu⟩

/-- A row of numbers and a row of answers, each behind a cell of its own. -/
structure Two (w : World) (base b1 b2 : Nat) (v1 v2 : Value) (xs : List Int) (ys : List BV) : Prop where
  blk1 : Blk w b1 27 [v1]
  blk2 : Blk w b2 104 [v2]
  row1 : Row .i64 3 w base v1 xs
  row2 : Vals w base v2 ys
  far1 : ∀ b, v1.ownBlock = some b → b ≠ b1 ∧ b ≠ b2 ∧ ¬ v2.ownBlock = some b
  far2 : ∀ b, v2.ownBlock = some b → b ≠ b1 ∧ b ≠ b2
  ne : b1 ≠ b2
theorem Two.keeps {S : Nat → Prop} {w w' : World} {base b1 b2 : Nat} {v1 v2 : Value} {xs : List Int} {ys : List BV} (h : Two w base b1 b2 v1 v2 xs ys) (hk : Keeps S w w') (h1 : ¬ S b1) (h2 : ¬ S b2) (h3 : ∀ b, v1.ownBlock = some b → ¬ S b) (h4 : ∀ b, v2.ownBlock = some b → ¬ S b) : Two w' base b1 b2 v1 v2 xs ys :=
  ⟨h.blk1.keeps hk h1, h.blk2.keeps hk h2, h.row1.keeps hk h3, h.row2.keeps hk h4, h.far1, h.far2, h.ne⟩
theorem Two.grew {w w' : World} {base b1 b2 : Nat} {v1 v2 : Value} {xs : List Int} {ys : List BV} (h : Two w base b1 b2 v1 v2 xs ys) (hk : Keeps None w w') : Two w' base b1 b2 v1 v2 xs ys := h.keeps hk id id (fun _ _ f => f) (fun _ _ f => f)

theorem Two.more {w wr X1 wA X2 wB : World} {base b1 b2 : Nat} {v1 v2 v1' v2' : Value} {xs xs' : List Int} {ys ys' : List BV} (h : Two wr base b1 b2 v1 v2 xs ys) (hK : Keeps None w wr) (hb : w.heap.size ≤ base ∧ base ≤ b1 ∧ base ≤ b2)
    (k1 : Keeps None wr X1) (hA : Row .i64 3 wA base v1' xs') (kA : Keeps (OwnB v1) X1 wA) (lA : v1'.ownBlock = v1.ownBlock ∨ v1'.ownBlock = some X1.heap.size)
    (k2 : Keeps None wA X2) (hB : Vals wB base v2' ys') (kB : Keeps (OwnB v2) X2 wB) (lB : v2'.ownBlock = v2.ownBlock ∨ v2'.ownBlock = some X2.heap.size) :
    Two ((wB.setCell ⟨b1, 0, Option.none⟩ v1').setCell ⟨b2, 0, Option.none⟩ v2') base b1 b2 v1' v2' xs' ys' ∧ Keeps None w ((wB.setCell ⟨b1, 0, Option.none⟩ v1').setCell ⟨b2, 0, Option.none⟩ v2') ∧ wB.cell? ⟨b1, 0, Option.none⟩ = some v1 ∧ wB.cell? ⟨b2, 0, Option.none⟩ = some v2 ∧ wB.frozen? ⟨b1, 0, Option.none⟩ = false ∧ wB.frozen? ⟨b2, 0, Option.none⟩ = false ∧ (wB.setCell ⟨b1, 0, Option.none⟩ v1').cell? ⟨b2, 0, Option.none⟩ = some v2 ∧ (wB.setCell ⟨b1, 0, Option.none⟩ v1').frozen? ⟨b2, 0, Option.none⟩ = false := by
  have g1 := h.blk1.lt
  have g2 := h.blk2.lt
  have s1 := k1.size
  have sA := kA.size
  have s2 := k2.size
  have sB := kB.size
  have o1 := fun b (e : v1.ownBlock = some b) => h.row1.lt b e
  have o2 := fun b (e : v2.ownBlock = some b) => h.row2.lt b e
  have oA := fun b (e : v1'.ownBlock = some b) => hA.lt b e
  have n1 : ∀ b, v1'.ownBlock = some b → b ≠ b1 ∧ b ≠ b2 ∧ ¬ v2.ownBlock = some b := by
    intro b e
    rcases lA with l | l
    · exact h.far1 b (l ▸ e)
    · rw [e] at l; cases l
      exact ⟨by omega, by omega, fun f => by have := (o2 _ f).2; omega⟩
  have n2 : ∀ b, v2'.ownBlock = some b → b ≠ b1 ∧ b ≠ b2 ∧ ¬ v1'.ownBlock = some b := by
    intro b e
    rcases lB with l | l
    · rw [l] at e
      refine ⟨(h.far2 b e).1, (h.far2 b e).2, fun f => (n1 b f).2.2 e⟩
    · rw [e] at l; cases l
      exact ⟨by omega, by omega, fun f => by have := (oA _ f).2; omega⟩
  have B1 : Blk wB b1 27 [v1] := ((((h.blk1.grew k1).keeps kA (fun e => (h.far1 _ e).1 rfl)).grew k2).keeps kB (fun e => (h.far2 _ e).1 rfl))
  have B2 : Blk wB b2 104 [v2] := ((((h.blk2.grew k1).keeps kA (fun e => (h.far1 _ e).2.1 rfl)).grew k2).keeps kB (fun e => (h.far2 _ e).2 rfl))
  have RA : Row .i64 3 wB base v1' xs' := (hA.grew k2).keeps kB (fun b e => (n1 b e).2.2)
  have KB : Keeps None w wB := (((hK.trans k1).andThen kA (fun i hi e => by have := (o1 i e).1; omega)).trans k2).andThen kB (fun i hi e => by have := (o2 i e).1; omega)
  have KS1 : ∀ x : World, Keeps (One b1) x (x.setCell ⟨b1, 0, Option.none⟩ v1') := fun x => (Keeps.refl _ _).setCell _ _ (fun _ => rfl)
  have KS2 : ∀ x : World, Keeps (One b2) x (x.setCell ⟨b2, 0, Option.none⟩ v2') := fun x => (Keeps.refl _ _).setCell _ _ (fun _ => rfl)
  refine ⟨⟨((B1.set 0 v1').other _ _ (by simpa using h.ne)), ((B2.other _ _ (by simpa using Ne.symm h.ne)).set 0 v2'), ?_, ?_, ?_, ?_, h.ne⟩, ?_, B1.cell 0 _ rfl, B2.cell 0 _ rfl, B1.free 0, B2.free 0, (B2.other _ _ (by simpa using Ne.symm h.ne)).cell 0 _ rfl, (B2.other _ _ (by simpa using Ne.symm h.ne)).free 0⟩
  · exact (RA.keeps (KS1 _) (fun b e f => (n1 b e).1 f)).keeps (KS2 _) (fun b e f => (n1 b e).2.1 f)
  · exact (hB.keeps (KS1 _) (fun b e f => (n2 b e).1 f)).keeps (KS2 _) (fun b e f => (n2 b e).2.1 f)
  · exact fun b e => ⟨(n1 b e).1, (n1 b e).2.1, fun f => (n2 b f).2.2 e⟩
  · exact fun b e => ⟨(n2 b e).1, (n2 b e).2.1⟩
  · exact (KB.setCell _ _ (fun h => by simp at h; omega)).setCell _ _ (fun h => by simp at h; omega)


def GotEnd (grp : List Int) (got : List (Int × Value)) (w : World) (e : Ending) (w' : World) : Prop :=
  e = .returned (.func (.func 56) #[] #[.pointer (some ⟨w.heap.size, 0, Option.none⟩), .pointer (some ⟨w.heap.size + 1, 0, Option.none⟩)]) ∧
    (∃ v1 v2 bs, Two w' w.heap.size w.heap.size (w.heap.size + 1) v1 v2 (TG.hasF grp got) bs ∧ bs.map bval = TG.ansF grp got) ∧ Keeps None w w'

set_option maxRecDepth 100000 in
set_option maxHeartbeats 1600000 in
theorem gotseq_any (g base : Nat) (v : Value) (grp : List Int) (need : Int) (bm : Nat) (got : List (Int × Value)) (w : World) (hT : Tal w g base v grp need bm got) (hwf : ∀ s ∈ grp, (Lit.int .i64 s).wf = true) (hgl : grp.length ≤ 100000000) :
    Calls Try.prog 35 #[.pointer (some ⟨g, 0, Option.none⟩)] w (GotEnd grp got w) := by
  obtain ⟨i0, hi, hz0, hz1, hz2⟩ := info_parts infoI
  obtain ⟨iB, hiB, hzB0, hzB1, hzB2⟩ := info_parts infoBk
  obtain ⟨A, cv, rfl, -, hN, -⟩ := hT.row.open_
  have HSH := Lib.hid hT.shape
  have c0 := ((hT.blk.alloc (.cells #[.slice Option.none 0 0] 27)).alloc (.cells #[.slice Option.none 0 0] 104)).cell 0 _ rfl
  go_enter Try.func35, Try.ntmps35
  go_wp2
  go_loopw [14] (fun i wr => ∃ (k : Nat) (v1 v2 : Value) (xs : List Int) (bs : List BV), k ≤ grp.length ∧ i = .int .i64 k ∧ Two wr w.heap.size w.heap.size (w.heap.size + 1) v1 v2 xs bs ∧ Hid (xs = TG.hasF (grp.take k) got ∧ bs.map bval = TG.ansF (grp.take k) got) ∧ xs.length ≤ k ∧ bs.length ≤ k ∧ Keeps None w wr) (fun i _ => grp.length - (intOf i).toNat)
  case atStart =>
    refine ⟨0, .slice Option.none 0 0, .slice Option.none 0 0, [], [], Nat.zero_le _, rfl, ⟨(Blk.new w _ _).alloc _, ?_, Row.nil _ _ _ _, Vals.nil _ _, fun b e => by simp [Value.ownBlock] at e, fun b e => by simp [Value.ownBlock] at e, by omega⟩, Lib.hid ⟨rfl, rfl⟩, Nat.le_refl _, Nat.le_refl _, ((Keeps.refl _ _).alloc _).alloc _⟩
    have := Blk.new (w.alloc (.cells #[.slice Option.none 0 0] 27)) 104 [.slice Option.none 0 0]
    rwa [World.size_alloc] at this
  case round =>
    obtain ⟨k, v1, v2, xs, bs, hk, rfl, h2, hE, hxl, hyl, hK⟩ := hrel
    have hsz := hK.size
    by_cases hlt : k < grp.length
    · obtain ⟨s, b, o, rfl, hc, hs⟩ := (hN.grew hK).get k hlt
      have hT1 := hT.grew hK
      obtain ⟨D, hD, hTD⟩ := hT1.map
      have c0 := hT1.blk.cell 0 _ rfl
      have c2 := hT1.blk.cell 2 _ rfl
      have hkey := keyOf_int_mk Try.underlying3 (hwf s (List.mem_of_getElem? hs.out))
      have hhas := hTD.has s
      have HV := Lib.hid (hTD.val s)
      have HT := Lib.hid (take_succ_of hs.out)
      obtain ⟨L, hL⟩ : ∃ L, L = lookV got s := ⟨_, rfl⟩
      rw [← hL] at hhas HV
      have HH := Lib.hid hL
      clear hTD hL
      cases L with
      | none =>
        have hhas : Maps.has D (.int .i64 s) = false := hhas
        have hatz := Lib.hid (atKey_of_not_has hhas (.held zeroB))
        go_wp2_with (at_lookup; refine wpList_lookup_own_ok _ rfl _ _ 98 rfl 3 49 keyI Try.underlying98 heldElem (zeroV _) _ [] rfl bm got.length D rfl hD _ _ rfl hkey ?_; intro v' ps hat; rw [hhas]; obtain rfl : v' = .pointer Option.none := by { rw [hatz.out] at hat; cases hat; rfl })
        go_roundw
        case rel => exact ⟨k + 1, v1, v2, xs, bs, by omega, by go_num, h2, Lib.hid (by rw [HT.out, TG.hasF_snoc, TG.ansF_snoc, ← HH.out, ← hE.out.1, ← hE.out.2]; simp), by omega, by omega, hK⟩
        case measure => simp [intOf]; omega
      | some c =>
        have hhas : Maps.has D (.int .i64 s) = true := hhas
        obtain ⟨xv, ec⟩ := HSH.out _ (lookV_mem HH.out.symm)
        simp only [val] at ec
        have HEC := Lib.hid ec
        clear ec
        go_wp2_with (at_lookup; refine wpList_lookup_own_ok _ rfl _ _ 98 rfl 3 49 keyI Try.underlying98 heldElem (zeroV _) _ [] rfl bm got.length D rfl hD _ _ rfl hkey ?_; intro v' ps hat; rw [hhas]; obtain rfl : v' = .pointer (some ⟨xv, 0, Option.none⟩) := by { have h1 := HV.out c rfl (.held zeroB); rw [h1] at hat; cases hat; exact HEC.out })
        obtain ⟨W, h2X, hKX, hW⟩ : ∃ (W : World), Two W w.heap.size w.heap.size (w.heap.size + 1) v1 v2 xs bs ∧ Keeps None w W ∧ W = wr := ⟨_, h2, hK, rfl⟩
        rw [← hW]
        clear hW
        clear c0 c2 hc h2
        obtain ⟨A1, d1, rfl⟩ := h2X.row1.slice
        obtain ⟨A2, d2, rfl⟩ := h2X.row2.slice
        have e1 := h2X.blk1.cell 0 _ rfl
        have e2 := h2X.blk2.cell 0 _ rfl
        have kd : Keeps None W W.drew := (Keeps.refl _ _).drew
        refine start_ (ds := [8, 9]) (S := (fun w' : World => w'.cell? ⟨w.heap.size, 0, Option.none⟩ = some (.slice A1 xs.length d1) ∧ w'.cell? ⟨w.heap.size + 1, 0, Option.none⟩ = some (.slice A2 bs.length d2))) #[false, false, false, false, false, false, false, false, false, false] (by kernel_rfl) rfl rfl ⟨e1, e2⟩ (fun hS0 => ?_)
        refine take_ (i := 0) (N := some 28) (v := .slice A1 xs.length d1) #[true, false, false, false, false, false, false, false, false, false] rfl rfl (by kernel_rfl) (fun _ _ _ h => h) (Or.inl ⟨wanted_none rfl, by intro w' hSw; obtain ⟨q1, q2⟩ := hSw; go_simp⟩) hS0 rfl ?_
        try simp only [Act.put, List.setIfInBounds_toArray, List.set_cons_zero, List.set_cons_succ]
        refine pure_ (i := 1) (N := some 29) (v := .int .i64 s) #[true, true, false, false, false, false, false, false, false, false] rfl rfl (by kernel_rfl) (fun _ _ _ h => h) (Or.inl ⟨wanted_none rfl, fun w => by rfl⟩) rfl ?_
        try simp only [Act.put, List.setIfInBounds_toArray, List.set_cons_zero, List.set_cons_succ]
        refine take_ (i := 4) (N := some 32) (v := .slice A2 bs.length d2) #[true, true, false, false, true, false, false, false, false, false] rfl rfl (by kernel_rfl) (fun _ _ _ h => h) (Or.inl ⟨wanted_none rfl, by intro w' hSw; obtain ⟨q1, q2⟩ := hSw; go_simp⟩) hS0 rfl ?_
        try simp only [Act.put, List.setIfInBounds_toArray, List.set_cons_zero, List.set_cons_succ]
        refine pure_ (i := 5) (N := some 33) (v := .pointer (some ⟨xv, 0, Option.none⟩)) #[true, true, false, false, true, true, false, false, false, false] rfl rfl (by kernel_rfl) (fun _ _ _ h => h) (Or.inl ⟨wanted_none rfl, fun w => by rfl⟩) rfl ?_
        try simp only [Act.put, List.setIfInBounds_toArray, List.set_cons_zero, List.set_cons_succ]
        refine two_ (i := 2) (j := 6) (oi := ({ dst := some 30, op := Op.buildSlice 27 1 #[(0, Operand.tmp 29)], type := 27, pos := "tally.go:47", after := #[{ on := 1, ground := Ground.data }], guard := Option.none } : Oper)) (oj := ({ dst := some 34, op := Op.buildSlice 104 1 #[(0, Operand.tmp 33)], type := 104, pos := "tally.go:47", after := #[{ on := 5, ground := Ground.data }], guard := Option.none } : Oper)) (Ni := some 30) (Nj := some 34) #[true, true, true, false, true, true, false, false, false, false] #[true, true, false, false, true, true, true, false, false, false] rfl rfl rfl rfl (by kernel_rfl) (by decide) (by decide) ?_ ?_
        · intro KK hKK
          refine value_ (wanted_none rfl) rfl (w1 := (W.drew.alloc (.cells #[.int .i64 s] 3))) (v := .slice (some ⟨(W.drew).heap.size, 0, Option.none⟩) 1 1) (by go_simp) (hKK.out _ _ (⟨(h2X.blk1.grew (kd.alloc (.cells #[.int .i64 s] 3))).cell 0 _ rfl, (h2X.blk2.grew (kd.alloc (.cells #[.int .i64 s] 3))).cell 0 _ rfl⟩) (fun hS1 => ?_))
          try simp only [Act.put, List.setIfInBounds_toArray, List.set_cons_zero, List.set_cons_succ]
          refine two_ (i := 3) (j := 6) (oi := ({ dst := some 31, op := Op.call { callee := Callee.builtin Builtin.append, args := #[Operand.tmp 28, Operand.tmp 30], argTypes := #[27, 27] }, type := 27, pos := "tally.go:47", after := #[{ on := 0, ground := Ground.data }, { on := 2, ground := Ground.data }], guard := Option.none } : Oper)) (oj := ({ dst := some 34, op := Op.buildSlice 104 1 #[(0, Operand.tmp 33)], type := 104, pos := "tally.go:47", after := #[{ on := 5, ground := Ground.data }], guard := Option.none } : Oper)) (Ni := some 31) (Nj := some 34) #[true, true, true, true, true, true, false, false, false, false] #[true, true, true, false, true, true, true, false, false, false] rfl rfl rfl rfl (by kernel_rfl) (by decide) (by decide) ?_ ?_
          · intro KK hKK
            have hk1 : Keeps None W (W.drew.alloc (.cells #[.int .i64 s] 3)) := (kd.alloc (.cells #[.int .i64 s] 3))
            have hbs := (Blk.new W.drew 3 [.int .i64 s])
            refine step_append_row _ (TG.wanted_none rfl) rfl (.tmp 28) (.tmp 30) 27 rfl w.heap.size 3 i0 (.int .i64 0) 1 8 Try.underlying27 hi hz0 hz1 hz2 rfl (by decide) (.slice A1 xs.length d1) xs.length (xs.map (Value.int .i64)) rfl (h2X.row1.grew hk1).raw (some ⟨W.drew.heap.size, 0, Option.none⟩) 1 1 [.int .i64 s] rfl rfl (fun e => by cases e) (src_cells hbs) (ints_oneCell _ [s]) (by unfold maxLen; omega) (by omega) (by have := hk1.size; have := hKX.size; omega) ?_
            intro v1' wA hown1 hkA hlA
            have hrA : Row .i64 3 wA w.heap.size v1' (xs ++ [s]) := Row.of_append rfl rfl hown1
            have hr2A := (h2X.row2.grew hk1).keeps hkA (fun b e f => (h2X.far1 b f).2.2 e)
            have hA1 := (h2X.blk1.grew hk1).keeps hkA (fun e => (h2X.far1 _ e).1 rfl)
            have hA2 := (h2X.blk2.grew hk1).keeps hkA (fun e => (h2X.far1 _ e).2.1 rfl)
            refine hKK.out _ _ ⟨hA1.cell 0 _ rfl, hA2.cell 0 _ rfl⟩ (fun hS2 => ?_)
            try simp only [Act.put, List.setIfInBounds_toArray, List.set_cons_zero, List.set_cons_succ]
            refine one_ (i := 6) (oi := ({ dst := some 34, op := Op.buildSlice 104 1 #[(0, Operand.tmp 33)], type := 104, pos := "tally.go:47", after := #[{ on := 5, ground := Ground.data }], guard := Option.none } : Oper)) (N := some 34) #[true, true, true, true, true, true, true, false, false, false] rfl rfl (by kernel_rfl) (by decide) ?_
            intro KK hKK
            refine value_ (wanted_none rfl) rfl (w1 := (wA.alloc (.cells #[.pointer (some ⟨xv, 0, Option.none⟩)] 49))) (v := .slice (some ⟨(wA).heap.size, 0, Option.none⟩) 1 1) (by go_simp) (hKK.out _ _ (⟨(hA1.grew ((Keeps.refl None wA).alloc (.cells #[.pointer (some ⟨xv, 0, Option.none⟩)] 49))).cell 0 _ rfl, (hA2.grew ((Keeps.refl None wA).alloc (.cells #[.pointer (some ⟨xv, 0, Option.none⟩)] 49))).cell 0 _ rfl⟩) (fun hS3 => ?_))
            try simp only [Act.put, List.setIfInBounds_toArray, List.set_cons_zero, List.set_cons_succ]
            have hk2 : Keeps None wA (wA.alloc (.cells #[.pointer (some ⟨xv, 0, Option.none⟩)] 49)) := ((Keeps.refl None wA).alloc (.cells #[.pointer (some ⟨xv, 0, Option.none⟩)] 49))
            have hbc := (Blk.new wA 49 [.pointer (some ⟨xv, 0, Option.none⟩)])
            refine one_ (i := 7) (oi := ({ dst := some 35, op := Op.call { callee := Callee.builtin Builtin.append, args := #[Operand.tmp 32, Operand.tmp 34], argTypes := #[104, 104] }, type := 104, pos := "tally.go:47", after := #[{ on := 4, ground := Ground.data }, { on := 6, ground := Ground.data }, { on := 3, ground := Ground.chain }], guard := Option.none } : Oper)) (N := some 35) #[true, true, true, true, true, true, true, true, false, false] rfl rfl (by kernel_rfl) (by decide) ?_
            intro KK hKK
            refine step_append_row _ (TG.wanted_none rfl) rfl (.tmp 32) (.tmp 34) 104 rfl w.heap.size 49 iB zeroB 1 8 Try.underlying104 hiB hzB0 hzB1 hzB2 rfl (by decide) (.slice A2 bs.length d2) bs.length (bs.flatMap bcells) rfl (hr2A.grew hk2).raw (some ⟨wA.heap.size, 0, Option.none⟩) 1 1 [.pointer (some ⟨xv, 0, Option.none⟩)] rfl rfl (fun e => by cases e) (src_cells hbc) (oneCells xv) (by unfold maxLen; omega) (by omega) (by have := hk1.size; have := hkA.size; have := hk2.size; have := hKX.size; omega) ?_
            intro v2' wB hown2 hkB hlB
            have hrB : Vals wB w.heap.size v2' (bs ++ [xv]) := Vals.snoc _ hown2
            obtain ⟨t1, t2, t3, t4, t5, t8, t6, t7⟩ := h2X.more hKX ⟨Nat.le_refl _, Nat.le_refl _, by omega⟩ hk1 hrA hkA hlA hk2 hrB hkB hlB
            refine hKK.out _ _ ⟨t3, t4⟩ (fun hS4 => ?_)
            try simp only [Act.put, List.setIfInBounds_toArray, List.set_cons_zero, List.set_cons_succ]
            obtain ⟨A1', c1', ev1⟩ := hrA.slice
            obtain rfl : v1' = .slice A1' (xs.length + 1) c1' := ev1.trans (by simp)
            obtain ⟨A2', c2', ev2⟩ := hrB.slice
            obtain rfl : v2' = .slice A2' (bs.length + 1) c2' := ev2.trans (by simp)
            refine last_ (i := 8) (oi := ({ dst := Option.none, op := Op.store 27 (Operand.tmp 3) (Operand.tmp 31), type := 0, pos := "tally.go:47", after := #[{ on := 3, ground := Ground.data }, { on := 7, ground := Ground.chain }, { on := 0, ground := Ground.phase }, { on := 1, ground := Ground.phase }, { on := 2, ground := Ground.phase }, { on := 3, ground := Ground.phase }, { on := 4, ground := Ground.textOnly Departure.inlinedCapture }, { on := 5, ground := Ground.textOnly Departure.lateStores }, { on := 6, ground := Ground.textOnly Departure.inlinedCapture }, { on := 7, ground := Ground.textOnly Departure.lateStoresUnsure }], guard := Option.none } : Oper)) (N := Option.none) #[true, true, true, true, true, true, true, true, true, false] rfl rfl (by kernel_rfl) (by decide) ?_
            intro KK hKK
            refine skip_ (wanted_none rfl) rfl (w1 := wB.setCell ⟨w.heap.size, 0, Option.none⟩ (.slice A1' (xs.length + 1) c1')) (by go_simp) (hKK.out _ _ ?_)
            try simp only [Act.put, List.setIfInBounds_toArray, List.set_cons_zero, List.set_cons_succ]
            refine last_ (i := 9) (oi := ({ dst := Option.none, op := Op.store 104 (Operand.tmp 4) (Operand.tmp 35), type := 0, pos := "tally.go:47", after := #[{ on := 7, ground := Ground.data }, { on := 8, ground := Ground.chain }, { on := 0, ground := Ground.phase }, { on := 1, ground := Ground.phase }, { on := 2, ground := Ground.phase }, { on := 3, ground := Ground.phase }, { on := 4, ground := Ground.phase }, { on := 5, ground := Ground.phase }, { on := 6, ground := Ground.phase }, { on := 7, ground := Ground.phase }, { on := 8, ground := Ground.phase }], guard := Option.none } : Oper)) (N := Option.none) #[true, true, true, true, true, true, true, true, true, true] rfl rfl (by kernel_rfl) (by decide) ?_
            intro KK hKK
            refine skip_ (wanted_none rfl) rfl (w1 := (wB.setCell ⟨w.heap.size, 0, Option.none⟩ (.slice A1' (xs.length + 1) c1')).setCell ⟨w.heap.size + 1, 0, Option.none⟩ (.slice A2' (bs.length + 1) c2')) (by go_simp) (hKK.out _ _ ?_)
            try simp only [Act.put, List.setIfInBounds_toArray, List.set_cons_zero, List.set_cons_succ]
            refine done_ (by kernel_rfl) ?_
            have TT := Lib.hid (And.intro t1 t2)
            clear t1 t2 t3 t4 t5 t6 t7 t8 ev1 ev2
            go_wp2
            go_roundw
            case rel => exact ⟨k + 1, _, _, xs ++ [s], bs ++ [xv], by omega, by go_num, TT.out.1, Lib.hid (by rw [HT.out, TG.hasF_snoc, TG.ansF_snoc, ← HH.out, ← hE.out.1, ← hE.out.2]; simp [bval, HEC.out]), by simp; omega, by simp; omega, TT.out.2⟩
            case measure => simp [intOf]; omega
          · intro KK hKK
            refine value_ (wanted_none rfl) rfl (w1 := ((W.drew.alloc (.cells #[.int .i64 s] 3)).alloc (.cells #[.pointer (some ⟨xv, 0, Option.none⟩)] 49))) (v := .slice (some ⟨((W.drew.alloc (.cells #[.int .i64 s] 3))).heap.size, 0, Option.none⟩) 1 1) (by go_simp) (hKK.out _ _ (⟨(h2X.blk1.grew ((kd.alloc (.cells #[.int .i64 s] 3)).alloc (.cells #[.pointer (some ⟨xv, 0, Option.none⟩)] 49))).cell 0 _ rfl, (h2X.blk2.grew ((kd.alloc (.cells #[.int .i64 s] 3)).alloc (.cells #[.pointer (some ⟨xv, 0, Option.none⟩)] 49))).cell 0 _ rfl⟩) (fun hS7 => ?_))
            try simp only [Act.put, List.setIfInBounds_toArray, List.set_cons_zero, List.set_cons_succ]
            have hk1 : Keeps None W ((W.drew.alloc (.cells #[.int .i64 s] 3)).alloc (.cells #[.pointer (some ⟨xv, 0, Option.none⟩)] 49)) := ((kd.alloc (.cells #[.int .i64 s] 3)).alloc (.cells #[.pointer (some ⟨xv, 0, Option.none⟩)] 49))
            have hbs := ((Blk.new W.drew 3 [.int .i64 s]).alloc (.cells #[.pointer (some ⟨xv, 0, Option.none⟩)] 49))
            refine one_ (i := 3) (oi := ({ dst := some 31, op := Op.call { callee := Callee.builtin Builtin.append, args := #[Operand.tmp 28, Operand.tmp 30], argTypes := #[27, 27] }, type := 27, pos := "tally.go:47", after := #[{ on := 0, ground := Ground.data }, { on := 2, ground := Ground.data }], guard := Option.none } : Oper)) (N := some 31) #[true, true, true, true, true, true, true, false, false, false] rfl rfl (by kernel_rfl) (by decide) ?_
            intro KK hKK
            refine step_append_row _ (TG.wanted_none rfl) rfl (.tmp 28) (.tmp 30) 27 rfl w.heap.size 3 i0 (.int .i64 0) 1 8 Try.underlying27 hi hz0 hz1 hz2 rfl (by decide) (.slice A1 xs.length d1) xs.length (xs.map (Value.int .i64)) rfl (h2X.row1.grew hk1).raw (some ⟨W.drew.heap.size, 0, Option.none⟩) 1 1 [.int .i64 s] rfl rfl (fun e => by cases e) (src_cells hbs) (ints_oneCell _ [s]) (by unfold maxLen; omega) (by omega) (by have := hk1.size; have := hKX.size; omega) ?_
            intro v1' wA hown1 hkA hlA
            have hrA : Row .i64 3 wA w.heap.size v1' (xs ++ [s]) := Row.of_append rfl rfl hown1
            have hr2A := (h2X.row2.grew hk1).keeps hkA (fun b e f => (h2X.far1 b f).2.2 e)
            have hA1 := (h2X.blk1.grew hk1).keeps hkA (fun e => (h2X.far1 _ e).1 rfl)
            have hA2 := (h2X.blk2.grew hk1).keeps hkA (fun e => (h2X.far1 _ e).2.1 rfl)
            have hbc0 := ((Blk.new (W.drew.alloc (.cells #[.int .i64 s] 3)) 49 [.pointer (some ⟨xv, 0, Option.none⟩)])).keeps hkA (fun e => by have h' := (h2X.row1.lt _ e).2; first | (simp at h'; done) | (simp at h'; omega))
            refine hKK.out _ _ ⟨hA1.cell 0 _ rfl, hA2.cell 0 _ rfl⟩ (fun hS8 => ?_)
            try simp only [Act.put, List.setIfInBounds_toArray, List.set_cons_zero, List.set_cons_succ]
            have hk2 : Keeps None wA wA := (Keeps.refl None wA)
            have hbc := hbc0
            refine one_ (i := 7) (oi := ({ dst := some 35, op := Op.call { callee := Callee.builtin Builtin.append, args := #[Operand.tmp 32, Operand.tmp 34], argTypes := #[104, 104] }, type := 104, pos := "tally.go:47", after := #[{ on := 4, ground := Ground.data }, { on := 6, ground := Ground.data }, { on := 3, ground := Ground.chain }], guard := Option.none } : Oper)) (N := some 35) #[true, true, true, true, true, true, true, true, false, false] rfl rfl (by kernel_rfl) (by decide) ?_
            intro KK hKK
            refine step_append_row _ (TG.wanted_none rfl) rfl (.tmp 32) (.tmp 34) 104 rfl w.heap.size 49 iB zeroB 1 8 Try.underlying104 hiB hzB0 hzB1 hzB2 rfl (by decide) (.slice A2 bs.length d2) bs.length (bs.flatMap bcells) rfl (hr2A.grew hk2).raw (some ⟨(W.drew.alloc (.cells #[.int .i64 s] 3)).heap.size, 0, Option.none⟩) 1 1 [.pointer (some ⟨xv, 0, Option.none⟩)] rfl rfl (fun e => by cases e) (src_cells hbc) (oneCells xv) (by unfold maxLen; omega) (by omega) (by have := hk1.size; have := hkA.size; have := hk2.size; have := hKX.size; omega) ?_
            intro v2' wB hown2 hkB hlB
            have hrB : Vals wB w.heap.size v2' (bs ++ [xv]) := Vals.snoc _ hown2
            obtain ⟨t1, t2, t3, t4, t5, t8, t6, t7⟩ := h2X.more hKX ⟨Nat.le_refl _, Nat.le_refl _, by omega⟩ hk1 hrA hkA hlA hk2 hrB hkB hlB
            refine hKK.out _ _ ⟨t3, t4⟩ (fun hS9 => ?_)
            try simp only [Act.put, List.setIfInBounds_toArray, List.set_cons_zero, List.set_cons_succ]
            obtain ⟨A1', c1', ev1⟩ := hrA.slice
            obtain rfl : v1' = .slice A1' (xs.length + 1) c1' := ev1.trans (by simp)
            obtain ⟨A2', c2', ev2⟩ := hrB.slice
            obtain rfl : v2' = .slice A2' (bs.length + 1) c2' := ev2.trans (by simp)
            refine last_ (i := 8) (oi := ({ dst := Option.none, op := Op.store 27 (Operand.tmp 3) (Operand.tmp 31), type := 0, pos := "tally.go:47", after := #[{ on := 3, ground := Ground.data }, { on := 7, ground := Ground.chain }, { on := 0, ground := Ground.phase }, { on := 1, ground := Ground.phase }, { on := 2, ground := Ground.phase }, { on := 3, ground := Ground.phase }, { on := 4, ground := Ground.textOnly Departure.inlinedCapture }, { on := 5, ground := Ground.textOnly Departure.lateStores }, { on := 6, ground := Ground.textOnly Departure.inlinedCapture }, { on := 7, ground := Ground.textOnly Departure.lateStoresUnsure }], guard := Option.none } : Oper)) (N := Option.none) #[true, true, true, true, true, true, true, true, true, false] rfl rfl (by kernel_rfl) (by decide) ?_
            intro KK hKK
            refine skip_ (wanted_none rfl) rfl (w1 := wB.setCell ⟨w.heap.size, 0, Option.none⟩ (.slice A1' (xs.length + 1) c1')) (by go_simp) (hKK.out _ _ ?_)
            try simp only [Act.put, List.setIfInBounds_toArray, List.set_cons_zero, List.set_cons_succ]
            refine last_ (i := 9) (oi := ({ dst := Option.none, op := Op.store 104 (Operand.tmp 4) (Operand.tmp 35), type := 0, pos := "tally.go:47", after := #[{ on := 7, ground := Ground.data }, { on := 8, ground := Ground.chain }, { on := 0, ground := Ground.phase }, { on := 1, ground := Ground.phase }, { on := 2, ground := Ground.phase }, { on := 3, ground := Ground.phase }, { on := 4, ground := Ground.phase }, { on := 5, ground := Ground.phase }, { on := 6, ground := Ground.phase }, { on := 7, ground := Ground.phase }, { on := 8, ground := Ground.phase }], guard := Option.none } : Oper)) (N := Option.none) #[true, true, true, true, true, true, true, true, true, true] rfl rfl (by kernel_rfl) (by decide) ?_
            intro KK hKK
            refine skip_ (wanted_none rfl) rfl (w1 := (wB.setCell ⟨w.heap.size, 0, Option.none⟩ (.slice A1' (xs.length + 1) c1')).setCell ⟨w.heap.size + 1, 0, Option.none⟩ (.slice A2' (bs.length + 1) c2')) (by go_simp) (hKK.out _ _ ?_)
            try simp only [Act.put, List.setIfInBounds_toArray, List.set_cons_zero, List.set_cons_succ]
            refine done_ (by kernel_rfl) ?_
            have TT := Lib.hid (And.intro t1 t2)
            clear t1 t2 t3 t4 t5 t6 t7 t8 ev1 ev2
            go_wp2
            go_roundw
            case rel => exact ⟨k + 1, _, _, xs ++ [s], bs ++ [xv], by omega, by go_num, TT.out.1, Lib.hid (by rw [HT.out, TG.hasF_snoc, TG.ansF_snoc, ← HH.out, ← hE.out.1, ← hE.out.2]; simp [bval, HEC.out]), by simp; omega, by simp; omega, TT.out.2⟩
            case measure => simp [intOf]; omega
        · intro KK hKK
          refine value_ (wanted_none rfl) rfl (w1 := (W.drew.alloc (.cells #[.pointer (some ⟨xv, 0, Option.none⟩)] 49))) (v := .slice (some ⟨(W.drew).heap.size, 0, Option.none⟩) 1 1) (by go_simp) (hKK.out _ _ (⟨(h2X.blk1.grew (kd.alloc (.cells #[.pointer (some ⟨xv, 0, Option.none⟩)] 49))).cell 0 _ rfl, (h2X.blk2.grew (kd.alloc (.cells #[.pointer (some ⟨xv, 0, Option.none⟩)] 49))).cell 0 _ rfl⟩) (fun hS12 => ?_))
          try simp only [Act.put, List.setIfInBounds_toArray, List.set_cons_zero, List.set_cons_succ]
          refine one_ (i := 2) (oi := ({ dst := some 30, op := Op.buildSlice 27 1 #[(0, Operand.tmp 29)], type := 27, pos := "tally.go:47", after := #[{ on := 1, ground := Ground.data }], guard := Option.none } : Oper)) (N := some 30) #[true, true, true, false, true, true, true, false, false, false] rfl rfl (by kernel_rfl) (by decide) ?_
          intro KK hKK
          refine value_ (wanted_none rfl) rfl (w1 := ((W.drew.alloc (.cells #[.pointer (some ⟨xv, 0, Option.none⟩)] 49)).alloc (.cells #[.int .i64 s] 3))) (v := .slice (some ⟨((W.drew.alloc (.cells #[.pointer (some ⟨xv, 0, Option.none⟩)] 49))).heap.size, 0, Option.none⟩) 1 1) (by go_simp) (hKK.out _ _ (⟨(h2X.blk1.grew ((kd.alloc (.cells #[.pointer (some ⟨xv, 0, Option.none⟩)] 49)).alloc (.cells #[.int .i64 s] 3))).cell 0 _ rfl, (h2X.blk2.grew ((kd.alloc (.cells #[.pointer (some ⟨xv, 0, Option.none⟩)] 49)).alloc (.cells #[.int .i64 s] 3))).cell 0 _ rfl⟩) (fun hS13 => ?_))
          try simp only [Act.put, List.setIfInBounds_toArray, List.set_cons_zero, List.set_cons_succ]
          have hk1 : Keeps None W ((W.drew.alloc (.cells #[.pointer (some ⟨xv, 0, Option.none⟩)] 49)).alloc (.cells #[.int .i64 s] 3)) := ((kd.alloc (.cells #[.pointer (some ⟨xv, 0, Option.none⟩)] 49)).alloc (.cells #[.int .i64 s] 3))
          have hbs := (Blk.new (W.drew.alloc (.cells #[.pointer (some ⟨xv, 0, Option.none⟩)] 49)) 3 [.int .i64 s])
          refine one_ (i := 3) (oi := ({ dst := some 31, op := Op.call { callee := Callee.builtin Builtin.append, args := #[Operand.tmp 28, Operand.tmp 30], argTypes := #[27, 27] }, type := 27, pos := "tally.go:47", after := #[{ on := 0, ground := Ground.data }, { on := 2, ground := Ground.data }], guard := Option.none } : Oper)) (N := some 31) #[true, true, true, true, true, true, true, false, false, false] rfl rfl (by kernel_rfl) (by decide) ?_
          intro KK hKK
          refine step_append_row _ (TG.wanted_none rfl) rfl (.tmp 28) (.tmp 30) 27 rfl w.heap.size 3 i0 (.int .i64 0) 1 8 Try.underlying27 hi hz0 hz1 hz2 rfl (by decide) (.slice A1 xs.length d1) xs.length (xs.map (Value.int .i64)) rfl (h2X.row1.grew hk1).raw (some ⟨(W.drew.alloc (.cells #[.pointer (some ⟨xv, 0, Option.none⟩)] 49)).heap.size, 0, Option.none⟩) 1 1 [.int .i64 s] rfl rfl (fun e => by cases e) (src_cells hbs) (ints_oneCell _ [s]) (by unfold maxLen; omega) (by omega) (by have := hk1.size; have := hKX.size; omega) ?_
          intro v1' wA hown1 hkA hlA
          have hrA : Row .i64 3 wA w.heap.size v1' (xs ++ [s]) := Row.of_append rfl rfl hown1
          have hr2A := (h2X.row2.grew hk1).keeps hkA (fun b e f => (h2X.far1 b f).2.2 e)
          have hA1 := (h2X.blk1.grew hk1).keeps hkA (fun e => (h2X.far1 _ e).1 rfl)
          have hA2 := (h2X.blk2.grew hk1).keeps hkA (fun e => (h2X.far1 _ e).2.1 rfl)
          have hbc0 := (((Blk.new W.drew 49 [.pointer (some ⟨xv, 0, Option.none⟩)]).alloc (.cells #[.int .i64 s] 3))).keeps hkA (fun e => by have h' := (h2X.row1.lt _ e).2; first | (simp at h'; done) | (simp at h'; omega))
          refine hKK.out _ _ ⟨hA1.cell 0 _ rfl, hA2.cell 0 _ rfl⟩ (fun hS14 => ?_)
          try simp only [Act.put, List.setIfInBounds_toArray, List.set_cons_zero, List.set_cons_succ]
          have hk2 : Keeps None wA wA := (Keeps.refl None wA)
          have hbc := hbc0
          refine one_ (i := 7) (oi := ({ dst := some 35, op := Op.call { callee := Callee.builtin Builtin.append, args := #[Operand.tmp 32, Operand.tmp 34], argTypes := #[104, 104] }, type := 104, pos := "tally.go:47", after := #[{ on := 4, ground := Ground.data }, { on := 6, ground := Ground.data }, { on := 3, ground := Ground.chain }], guard := Option.none } : Oper)) (N := some 35) #[true, true, true, true, true, true, true, true, false, false] rfl rfl (by kernel_rfl) (by decide) ?_
          intro KK hKK
          refine step_append_row _ (TG.wanted_none rfl) rfl (.tmp 32) (.tmp 34) 104 rfl w.heap.size 49 iB zeroB 1 8 Try.underlying104 hiB hzB0 hzB1 hzB2 rfl (by decide) (.slice A2 bs.length d2) bs.length (bs.flatMap bcells) rfl (hr2A.grew hk2).raw (some ⟨W.drew.heap.size, 0, Option.none⟩) 1 1 [.pointer (some ⟨xv, 0, Option.none⟩)] rfl rfl (fun e => by cases e) (src_cells hbc) (oneCells xv) (by unfold maxLen; omega) (by omega) (by have := hk1.size; have := hkA.size; have := hk2.size; have := hKX.size; omega) ?_
          intro v2' wB hown2 hkB hlB
          have hrB : Vals wB w.heap.size v2' (bs ++ [xv]) := Vals.snoc _ hown2
          obtain ⟨t1, t2, t3, t4, t5, t8, t6, t7⟩ := h2X.more hKX ⟨Nat.le_refl _, Nat.le_refl _, by omega⟩ hk1 hrA hkA hlA hk2 hrB hkB hlB
          refine hKK.out _ _ ⟨t3, t4⟩ (fun hS15 => ?_)
          try simp only [Act.put, List.setIfInBounds_toArray, List.set_cons_zero, List.set_cons_succ]
          obtain ⟨A1', c1', ev1⟩ := hrA.slice
          obtain rfl : v1' = .slice A1' (xs.length + 1) c1' := ev1.trans (by simp)
          obtain ⟨A2', c2', ev2⟩ := hrB.slice
          obtain rfl : v2' = .slice A2' (bs.length + 1) c2' := ev2.trans (by simp)
          refine last_ (i := 8) (oi := ({ dst := Option.none, op := Op.store 27 (Operand.tmp 3) (Operand.tmp 31), type := 0, pos := "tally.go:47", after := #[{ on := 3, ground := Ground.data }, { on := 7, ground := Ground.chain }, { on := 0, ground := Ground.phase }, { on := 1, ground := Ground.phase }, { on := 2, ground := Ground.phase }, { on := 3, ground := Ground.phase }, { on := 4, ground := Ground.textOnly Departure.inlinedCapture }, { on := 5, ground := Ground.textOnly Departure.lateStores }, { on := 6, ground := Ground.textOnly Departure.inlinedCapture }, { on := 7, ground := Ground.textOnly Departure.lateStoresUnsure }], guard := Option.none } : Oper)) (N := Option.none) #[true, true, true, true, true, true, true, true, true, false] rfl rfl (by kernel_rfl) (by decide) ?_
          intro KK hKK
          refine skip_ (wanted_none rfl) rfl (w1 := wB.setCell ⟨w.heap.size, 0, Option.none⟩ (.slice A1' (xs.length + 1) c1')) (by go_simp) (hKK.out _ _ ?_)
          try simp only [Act.put, List.setIfInBounds_toArray, List.set_cons_zero, List.set_cons_succ]
          refine last_ (i := 9) (oi := ({ dst := Option.none, op := Op.store 104 (Operand.tmp 4) (Operand.tmp 35), type := 0, pos := "tally.go:47", after := #[{ on := 7, ground := Ground.data }, { on := 8, ground := Ground.chain }, { on := 0, ground := Ground.phase }, { on := 1, ground := Ground.phase }, { on := 2, ground := Ground.phase }, { on := 3, ground := Ground.phase }, { on := 4, ground := Ground.phase }, { on := 5, ground := Ground.phase }, { on := 6, ground := Ground.phase }, { on := 7, ground := Ground.phase }, { on := 8, ground := Ground.phase }], guard := Option.none } : Oper)) (N := Option.none) #[true, true, true, true, true, true, true, true, true, true] rfl rfl (by kernel_rfl) (by decide) ?_
          intro KK hKK
          refine skip_ (wanted_none rfl) rfl (w1 := (wB.setCell ⟨w.heap.size, 0, Option.none⟩ (.slice A1' (xs.length + 1) c1')).setCell ⟨w.heap.size + 1, 0, Option.none⟩ (.slice A2' (bs.length + 1) c2')) (by go_simp) (hKK.out _ _ ?_)
          try simp only [Act.put, List.setIfInBounds_toArray, List.set_cons_zero, List.set_cons_succ]
          refine done_ (by kernel_rfl) ?_
          have TT := Lib.hid (And.intro t1 t2)
          clear t1 t2 t3 t4 t5 t6 t7 t8 ev1 ev2
          go_wp2
          go_roundw
          case rel => exact ⟨k + 1, _, _, xs ++ [s], bs ++ [xv], by omega, by go_num, TT.out.1, Lib.hid (by rw [HT.out, TG.hasF_snoc, TG.ansF_snoc, ← HH.out, ← hE.out.1, ← hE.out.2]; simp [bval, HEC.out]), by simp; omega, by simp; omega, TT.out.2⟩
          case measure => simp [intOf]; omega
    · obtain rfl : k = grp.length := by omega
      go_wp2
      go_ret
      have E := hE.out
      rw [List.take_of_length_le (Nat.le_refl _)] at E
      refine ⟨rfl, ⟨v1, v2, bs, ?_, E.2⟩, hK⟩
      rw [← E.1]; exact h2

attribute [local go_sem] Oper.semAt_some

def encB (x : Int × BV) : Array Value := #[.int .i64 x.1, bval x.2]

theorem take_zip {xs : List Int} {ys : List BV} {k : Nat} {x : Int} {y : BV} (hx : xs[k]? = some x) (hy : ys[k]? = some y) : (xs.zip ys).take (k + 1) = (xs.zip ys).take k ++ [(x, y)] :=
  take_succ_of ((List.getElem?_zip_eq_some (z := (x, y))).2 ⟨hx, hy⟩)

set_option maxRecDepth 100000 in
set_option maxHeartbeats 2000000 in
theorem seqB (n : Nat) (hn : 1 ≤ n) (base b1 b2 : Nat) (v1 v2 : Value) (xs : List Int) (bs : List BV) (hlen : bs.length = xs.length) (hr : xs.length ≤ 100000000) :
    SeqG Fence.wide n Try.prog 56 #[.pointer (some ⟨b1, 0, Option.none⟩), .pointer (some ⟨b2, 0, Option.none⟩)] encB (fun pre x _ _ => (pre ++ [x]) <+: xs.zip bs) (fun W => Two W base b1 b2 v1 v2 xs bs) (fun zs => zs = xs.zip bs) (fun pre => pre <+: xs.zip bs) xs.length := by
  intro l J Jx W hJ hY h0 hS0
  have c1 := hS0.blk1.cell 0 _ rfl
  obtain ⟨A1, d1, rfl⟩ := hS0.row1.slice
  obtain ⟨A2, d2, rfl⟩ := hS0.row2.slice
  refine callsIn_of_wp Try.func56 rfl trivial ?_ rfl
  simp only [Try.ntmps56, List.size_toArray, List.length_cons, List.length_nil, Nat.reduceAdd, Nat.reduceSub, Array.replicate_succ, Array.replicate_zero, List.push_toArray, List.append_toArray, List.nil_append, List.cons_append]
  gi_wp2
  gi_loopw [8] (fun i wr => ∃ k : Nat, k ≤ xs.length ∧ i = .int .i64 k ∧ J ((xs.zip bs).take k) wr ∧ Two wr base b1 b2 (.slice A1 xs.length d1) (.slice A2 bs.length d2) xs bs) (fun i _ => xs.length - (intOf i).toNat)
  case atStart => exact ⟨0, Nat.zero_le _, rfl, h0, hS0⟩
  case round =>
    obtain ⟨k, hk, rfl, hJs, hS⟩ := hrel
    by_cases hlt : k < xs.length
    · obtain ⟨x, bx, ox, rfl, hcx, hx⟩ := (Nums.row hS.row1).1.get k hlt
      obtain ⟨y, hy⟩ : ∃ y, bs[k]? = some y := ⟨_, List.getElem?_eq_getElem (by omega)⟩
      obtain ⟨by_, rfl, -, -, yc⟩ := hS.row2.get k y hy
      have y0 := yc 0 (by omega)
      simp only [bcells, List.getElem?_cons_zero, Nat.add_zero, Nat.mul_one] at y0
      have hly : k < bs.length := by omega
      have c2 := hS.blk2.cell 0 _ rfl
      have htz := take_zip hx.out hy
      have hpre : (xs.zip bs).take k ++ [(x, y)] <+: xs.zip bs := by rw [← htz]; exact List.take_prefix _ _
      obtain ⟨fn, tmps, assign, body, hyl, hR⟩ := hY _ (x, y) wr wr hJs (Keeps.refl _ _) hpre hS (by simp; omega)
      dsimp only [encB, bval] at hyl
      have HT := Lib.hid htz
      clear hx hy htz hpre yc
      gi_wp2
      refine hR.mono ?_
      rintro e W3 (⟨rfl, hJ3, hk3⟩ | ⟨rfl, hJx3⟩)
      · gi_wp2
        go_roundw
        case rel => exact ⟨k + 1, by omega, by simp, by rw [HT.out]; exact hJ3, hk3⟩
        case measure => simp [intOf]; omega
      · gi_wp2
        refine bodyPost_ret (results_none rfl _ _ _) rfl ?_
        refine ⟨⟨_, rfl⟩, .inr ⟨_, ?_, hJx3⟩⟩
        rw [← HT.out]
        exact List.take_prefix _ _
    · obtain rfl : k = xs.length := by omega
      gi_wp2
      go_end0
      exact ⟨⟨_, rfl⟩, .inl ⟨_, rfl, by rwa [List.take_of_length_le (by simp; omega)] at hJs⟩⟩
end Go.Proofs.Ytghbgcmhahndkaa.KZ
