/- The program's tally of numbers: Got. -/
import Derived.Test.YtghbgcmhahndkaaTallyNew
import Derived.Test.YtghbgcmhahndkaaWLast
namespace Go.Proofs.Ytghbgcmhahndkaa
open Go.RowKit Go.Maps Go.Proofs.YtghbgcmhahndkaaW.PrintLast

def hasF (grp : List Int) (got : List (Int × Int)) : List Int := grp.filter fun s => (look got s).isSome
def ansF (grp : List Int) (got : List (Int × Int)) : List Int := grp.filterMap (look got)
theorem hasF_snoc (grp : List Int) (got : List (Int × Int)) (s : Int) : hasF (grp ++ [s]) got = hasF grp got ++ (if (look got s).isSome then [s] else []) := by
  unfold hasF
  rw [List.filter_append]
  cases h : look got s <;> simp [h]
theorem ansF_snoc (grp : List Int) (got : List (Int × Int)) (s : Int) : ansF (grp ++ [s]) got = ansF grp got ++ (match look got s with | some c => [c] | none => []) := by
  unfold ansF
  rw [List.filterMap_append]
  cases h : look got s <;> simp [h]
theorem ansF_len (grp : List Int) (got : List (Int × Int)) : (ansF grp got).length = (hasF grp got).length := by
  induction grp with
  | nil => rfl
  | cons s grp ih =>
    unfold ansF hasF at *
    cases h : look got s <;> simp [h, ih]

/-- Two rows of numbers, each behind a cell of its own. -/
structure Two (w : World) (base b1 b2 : Nat) (v1 v2 : Value) (xs ys : List Int) : Prop where
  blk1 : Blk w b1 27 [v1]
  blk2 : Blk w b2 27 [v2]
  row1 : Row .i64 3 w base v1 xs
  row2 : Row .i64 3 w base v2 ys
  far1 : ∀ b, v1.ownBlock = some b → b ≠ b1 ∧ b ≠ b2 ∧ ¬ v2.ownBlock = some b
  far2 : ∀ b, v2.ownBlock = some b → b ≠ b1 ∧ b ≠ b2
  ne : b1 ≠ b2
theorem Two.keeps {S : Nat → Prop} {w w' : World} {base b1 b2 : Nat} {v1 v2 : Value} {xs ys : List Int} (h : Two w base b1 b2 v1 v2 xs ys) (hk : Keeps S w w') (h1 : ¬ S b1) (h2 : ¬ S b2) (h3 : ∀ b, v1.ownBlock = some b → ¬ S b) (h4 : ∀ b, v2.ownBlock = some b → ¬ S b) : Two w' base b1 b2 v1 v2 xs ys :=
  ⟨h.blk1.keeps hk h1, h.blk2.keeps hk h2, h.row1.keeps hk h3, h.row2.keeps hk h4, h.far1, h.far2, h.ne⟩
theorem Two.grew {w w' : World} {base b1 b2 : Nat} {v1 v2 : Value} {xs ys : List Int} (h : Two w base b1 b2 v1 v2 xs ys) (hk : Keeps None w w') : Two w' base b1 b2 v1 v2 xs ys := h.keeps hk id id (fun _ _ f => f) (fun _ _ f => f)

theorem Two.more {w wr X1 wA X2 wB : World} {base b1 b2 : Nat} {v1 v2 v1' v2' : Value} {xs ys xs' ys' : List Int} (h : Two wr base b1 b2 v1 v2 xs ys) (hK : Keeps None w wr) (hb : w.heap.size ≤ base ∧ base ≤ b1 ∧ base ≤ b2)
    (k1 : Keeps None wr X1) (hA : Row .i64 3 wA base v1' xs') (kA : Keeps (OwnB v1) X1 wA) (lA : v1'.ownBlock = v1.ownBlock ∨ v1'.ownBlock = some X1.heap.size)
    (k2 : Keeps None wA X2) (hB : Row .i64 3 wB base v2' ys') (kB : Keeps (OwnB v2) X2 wB) (lB : v2'.ownBlock = v2.ownBlock ∨ v2'.ownBlock = some X2.heap.size) :
    Two ((wB.setCell ⟨b1, 0, Option.none⟩ v1').setCell ⟨b2, 0, Option.none⟩ v2') base b1 b2 v1' v2' xs' ys' ∧ Keeps None w ((wB.setCell ⟨b1, 0, Option.none⟩ v1').setCell ⟨b2, 0, Option.none⟩ v2') ∧ wB.cell? ⟨b1, 0, Option.none⟩ = some v1 ∧ wB.cell? ⟨b2, 0, Option.none⟩ = some v2 ∧ wB.frozen? ⟨b1, 0, Option.none⟩ = false ∧ wB.frozen? ⟨b2, 0, Option.none⟩ = false ∧ (wB.setCell ⟨b1, 0, Option.none⟩ v1').cell? ⟨b2, 0, Option.none⟩ = some v2 ∧ (wB.setCell ⟨b1, 0, Option.none⟩ v1').frozen? ⟨b2, 0, Option.none⟩ = false := by
  have g1 := h.blk1.lt
  have g2 := h.blk2.lt
  have s1 := k1.size
  have sA := kA.size
  have s2 := k2.size
  have sB := kB.size
  have o1 := fun b (e : v1.ownBlock = some b) => h.row1.lt b e
  have o2 := fun b (e : v2.ownBlock = some b) => h.row2.lt b e
  have oA := fun b (e : v1'.ownBlock = some b) => hA.lt b e
  have n1 : ∀ b, v1'.ownBlock = some b → b ≠ b1 ∧ b ≠ b2 ∧ ¬ v2.ownBlock = some b := by
    intro b e
    rcases lA with l | l
    · exact h.far1 b (l ▸ e)
    · rw [e] at l; cases l
      exact ⟨by omega, by omega, fun f => by have := (o2 _ f).2; omega⟩
  have n2 : ∀ b, v2'.ownBlock = some b → b ≠ b1 ∧ b ≠ b2 ∧ ¬ v1'.ownBlock = some b := by
    intro b e
    rcases lB with l | l
    · rw [l] at e
      refine ⟨(h.far2 b e).1, (h.far2 b e).2, fun f => (n1 b f).2.2 e⟩
    · rw [e] at l; cases l
      exact ⟨by omega, by omega, fun f => by have := (oA _ f).2; omega⟩
  have B1 : Blk wB b1 27 [v1] := ((((h.blk1.grew k1).keeps kA (fun e => (h.far1 _ e).1 rfl)).grew k2).keeps kB (fun e => (h.far2 _ e).1 rfl))
  have B2 : Blk wB b2 27 [v2] := ((((h.blk2.grew k1).keeps kA (fun e => (h.far1 _ e).2.1 rfl)).grew k2).keeps kB (fun e => (h.far2 _ e).2 rfl))
  have RA : Row .i64 3 wB base v1' xs' := (hA.grew k2).keeps kB (fun b e => (n1 b e).2.2)
  have KB : Keeps None w wB := (((hK.trans k1).andThen kA (fun i hi e => by have := (o1 i e).1; omega)).trans k2).andThen kB (fun i hi e => by have := (o2 i e).1; omega)
  have KS1 : ∀ x : World, Keeps (One b1) x (x.setCell ⟨b1, 0, Option.none⟩ v1') := fun x => (Keeps.refl _ _).setCell _ _ (fun _ => rfl)
  have KS2 : ∀ x : World, Keeps (One b2) x (x.setCell ⟨b2, 0, Option.none⟩ v2') := fun x => (Keeps.refl _ _).setCell _ _ (fun _ => rfl)
  refine ⟨⟨((B1.set 0 v1').other _ _ (by simpa using h.ne)), ((B2.other _ _ (by simpa using Ne.symm h.ne)).set 0 v2'), ?_, ?_, ?_, ?_, h.ne⟩, ?_, B1.cell 0 _ rfl, B2.cell 0 _ rfl, B1.free 0, B2.free 0, (B2.other _ _ (by simpa using Ne.symm h.ne)).cell 0 _ rfl, (B2.other _ _ (by simpa using Ne.symm h.ne)).free 0⟩
  · exact (RA.keeps (KS1 _) (fun b e f => (n1 b e).1 f)).keeps (KS2 _) (fun b e f => (n1 b e).2.1 f)
  · exact (hB.keeps (KS1 _) (fun b e f => (n2 b e).1 f)).keeps (KS2 _) (fun b e f => (n2 b e).2.1 f)
  · exact fun b e => ⟨(n1 b e).1, (n1 b e).2.1, fun f => (n2 b f).2.2 e⟩
  · exact fun b e => ⟨(n2 b e).1, (n2 b e).2.1⟩
  · exact (KB.setCell _ _ (fun h => by simp at h; omega)).setCell _ _ (fun h => by simp at h; omega)

theorem wanted_none {o : Oper} {y : Nat → Option Bool} (h : o.guard = Option.none) : Region.wanted o y = true := by simp [Region.wanted, h]
theorem src_at {w : World} {n t : Nat} {x : Int} (h : Blk w n t [.int .i64 x]) : 0 < [Value.int .i64 x].length → ∃ ad, some (⟨n, 0, Option.none⟩ : Addr) = some ad ∧ ∀ j u, [Value.int .i64 x][j]? = some u → w.cell? (ad.add j) = some u :=
  fun _ => ⟨_, rfl, fun j u hu => by rw [Addr.add_lit, Nat.zero_add]; exact h.cell j u hu⟩

/-- append as one step of a region that draws. -/
theorem step_append_row {P : Program} (w : World) {ops : Array Oper} {o : Oper} {a : Act} {N : Option Tmp} {K : Act → World → Prop} {Q : Exit → Act → World → Prop} (hw : Region.wanted o (yielded ops a.tmps) = true) (hN : o.dst = N) (s x : Operand) (t : TypeId)
    (ho : o.op = .call { callee := .builtin .append, args := #[s, x], argTypes := #[t, t] })
    (base : Nat) (e : TypeId) (i : TypeInfo) (z : Value) (size bytes : Nat) (ht : P.underlying t = some (.slice e)) (hi : P.info? e = some i) (hz : i.zero = some z)
    (hsize : i.size = size) (hby : i.bytes = bytes) (hzs : z.cells.size = size) (hsz : 0 < size)
    (v : Value) (n : Nat) (xs : List Value) (hs : a.eval s = v) (hown : w.ownsRow base e size v n xs)
    (A : Option Addr) (m c : Nat) (news : List Value) (hx : a.eval x = .slice A m c) (hl : news.length = m * size) (hnil : A = Option.none → c = 0)
    (hsrc : 0 < news.length → ∃ ad, A = some ad ∧ ∀ j u, news[j]? = some u → w.cell? (ad.add j) = some u) (h1 : ∀ u ∈ news, u.oneCell' = true)
    (h63 : n + m ≤ maxLen) (hbytes : (n + m) * bytes ≤ 140737488355328) (hbase : base ≤ w.heap.size)
    (h : ∀ v' w', w'.ownsRow base e size v' (n + m) (xs ++ news) → Keeps (OwnB v) w w' → (v'.ownBlock = v.ownBlock ∨ v'.ownBlock = some w.heap.size) → K (a.put N v') w') :
    if Region.wanted o (yielded ops a.tmps) = true then Oper.wp P o a w K Q else K (a.put N undef) w := by
  obtain ⟨v', w', hr, h2, h3, h4⟩ := run_append_row (P := P) w base t o.type e i z size bytes ht hi hz hsize hby hzs hsz v n xs hown A m c news hl hnil hsrc h1 h63 hbytes hbase
  subst hN
  rw [if_pos hw]
  unfold Oper.wp execOp
  simp only [ho, resolve, invoke, builtin, Sem.run_bind, Sem.run_pure, Result.andThen_ok, List.map_toArray, List.map_cons, List.map_nil, hs, hx, hr]
  exact h v' w' h2 h3 h4

def GotEnd (grp : List Int) (got : List (Int × Int)) (w : World) (e : Ending) (w' : World) : Prop :=
  e = .returned (.func (.func 50) #[] #[.pointer (some ⟨w.heap.size, 0, Option.none⟩), .pointer (some ⟨w.heap.size + 1, 0, Option.none⟩)]) ∧
    (∃ v1 v2, Two w' w.heap.size w.heap.size (w.heap.size + 1) v1 v2 (hasF grp got) (ansF grp got)) ∧ Keeps None w w'

set_option maxRecDepth 100000 in
set_option maxHeartbeats 1600000 in
theorem gotseq_any (g base : Nat) (v : Value) (grp : List Int) (need : Int) (bm : Nat) (got : List (Int × Int)) (w : World) (hT : Tal w g base v grp need bm got) (hwf : ∀ s ∈ grp, (Lit.int .i64 s).wf = true) (hgl : grp.length ≤ 17592186044416) :
    Calls Try.prog 26 #[.pointer (some ⟨g, 0, Option.none⟩)] w (GotEnd grp got w) := by
  obtain ⟨i0, hi, hz0, hz1, hz2⟩ := info_parts Try.infoI64
  obtain ⟨A, cv, rfl, -, hN, -⟩ := hT.row.open_
  have c0 := ((hT.blk.alloc (.cells #[.slice Option.none 0 0] 27)).alloc (.cells #[.slice Option.none 0 0] 27)).cell 0 _ rfl
  go_enter Try.func26, Try.ntmps26
  go_wp2
  go_loopw [14] (fun i wr => ∃ (k : Nat) (v1 v2 : Value) (xs ys : List Int), k ≤ grp.length ∧ i = .int .i64 k ∧ Two wr w.heap.size w.heap.size (w.heap.size + 1) v1 v2 xs ys ∧ Hid (xs = hasF (grp.take k) got ∧ ys = ansF (grp.take k) got) ∧ xs.length ≤ k ∧ ys.length ≤ k ∧ Keeps None w wr) (fun i _ => grp.length - (intOf i).toNat)
  case atStart => 
    refine ⟨0, .slice Option.none 0 0, .slice Option.none 0 0, [], [], Nat.zero_le _, rfl, ⟨(Blk.new w _ _).alloc _, ?_, Row.nil _ _ _ _, Row.nil _ _ _ _, fun b e => by simp [Value.ownBlock] at e, fun b e => by simp [Value.ownBlock] at e, by omega⟩, Lib.hid ⟨rfl, rfl⟩, Nat.le_refl _, Nat.le_refl _, ((Keeps.refl _ _).alloc _).alloc _⟩
    have := Blk.new (w.alloc (.cells #[.slice Option.none 0 0] 27)) 27 [.slice Option.none 0 0]
    rwa [World.size_alloc] at this
  case round =>
    obtain ⟨k, v1, v2, xs, ys, hk, rfl, h2, hE, hxl, hyl, hK⟩ := hrel
    have hsz := hK.size
    by_cases hlt : k < grp.length
    · obtain ⟨s, b, o, rfl, hc, hs⟩ := (hN.grew hK).get k hlt
      have hT1 := hT.grew hK
      obtain ⟨D, hD, hTD⟩ := hT1.map
      have c0 := hT1.blk.cell 0 _ rfl
      have c2 := hT1.blk.cell 2 _ rfl
      have hkey := keyOf_int_mk Try.underlying3 (hwf s (List.mem_of_getElem? hs.out))
      have hhas := hTD.has s
      have HV := Lib.hid (hTD.val s)
      have HT := Lib.hid (take_succ_of hs.out)
      obtain ⟨L, hL⟩ : ∃ L, L = look got s := ⟨_, rfl⟩
      rw [← hL] at hhas HV
      have HH := Lib.hid hL
      clear hTD hL
      cases L with
      | none =>
        have hhas : Maps.has D (.int .i64 s) = false := hhas
        go_wp2_with (at_lookup; refine wpList_lookup_own_ok_int _ rfl _ _ 83 rfl 3 3 .i64 keyInt Try.underlying83 Try.underlying3 (zeroInt _) bm got.length D rfl hD _ _ rfl hkey ?_; intro c hat hwc; rw [hhas])
        go_roundw
        case rel => exact ⟨k + 1, v1, v2, xs, ys, by omega, by go_num, h2, Lib.hid (by rw [HT.out, hasF_snoc, ansF_snoc, ← HH.out, ← hE.out.1, ← hE.out.2]; simp), by omega, by omega, hK⟩
        case measure => simp [intOf]; omega
      | some x =>
        have hhas : Maps.has D (.int .i64 s) = true := hhas
        obtain ⟨A1, d1, rfl⟩ := h2.row1.slice
        obtain ⟨A2, d2, rfl⟩ := h2.row2.slice
        have e1 := h2.blk1.cell 0 _ rfl
        have e2 := h2.blk2.cell 0 _ rfl
        have f1 := h2.blk1.free 0
        have f2 := h2.blk2.free 0
        go_wp2_with (at_lookup; refine wpList_lookup_own_ok_int _ rfl _ _ 83 rfl 3 3 .i64 keyInt Try.underlying83 Try.underlying3 (zeroInt _) bm got.length D rfl hD _ _ rfl hkey ?_; intro c hat hwc; rw [hhas]; obtain rfl : c = x := by have := HV.out x rfl (.lit (.int .i64 0)); rw [hat] at this; cases this; rfl)
        refine start_ (ds := [8, 9]) (S := (fun w' : World => w'.cell? ⟨w.heap.size, 0, Option.none⟩ = some (.slice A1 xs.length d1) ∧ w'.cell? ⟨w.heap.size + 1, 0, Option.none⟩ = some (.slice A2 ys.length d2))) #[false, false, false, false, false, false, false, false, false, false] (by kernel_rfl) rfl rfl ⟨e1, e2⟩ (fun hS0 => ?_)
        refine pure_ (i := 1) (N := some 29) (v := .int .i64 s) #[false, true, false, false, false, false, false, false, false, false] rfl rfl (by kernel_rfl) (fun _ _ _ h => h) (Or.inl ⟨wanted_none rfl, fun w => by rfl⟩) rfl ?_
        try simp only [Act.put, List.setIfInBounds_toArray, List.set_cons_zero, List.set_cons_succ]
        refine pure_ (i := 5) (N := some 33) (v := .int .i64 c) #[false, true, false, false, false, true, false, false, false, false] rfl rfl (by kernel_rfl) (fun _ _ _ h => h) (Or.inl ⟨wanted_none rfl, fun w => by rfl⟩) rfl ?_
        try simp only [Act.put, List.setIfInBounds_toArray, List.set_cons_zero, List.set_cons_succ]
        refine take_ (i := 0) (N := some 28) (v := .slice A1 xs.length d1) #[true, true, false, false, false, true, false, false, false, false] rfl rfl (by kernel_rfl) (fun _ _ _ h => h) (Or.inl ⟨wanted_none rfl, by intro w' hSw; obtain ⟨q1, q2⟩ := hSw; go_simp⟩) hS0 rfl ?_
        try simp only [Act.put, List.setIfInBounds_toArray, List.set_cons_zero, List.set_cons_succ]
        refine take_ (i := 4) (N := some 32) (v := .slice A2 ys.length d2) #[true, true, false, false, true, true, false, false, false, false] rfl rfl (by kernel_rfl) (fun _ _ _ h => h) (Or.inl ⟨wanted_none rfl, by intro w' hSw; obtain ⟨q1, q2⟩ := hSw; go_simp⟩) hS0 rfl ?_
        try simp only [Act.put, List.setIfInBounds_toArray, List.set_cons_zero, List.set_cons_succ]
        have kd : Keeps None wr wr.drew := (Keeps.refl _ _).drew
        have kS : Keeps None wr (wr.drew.alloc (.cells #[.int .i64 s] 3)) := kd.alloc _
        have kC : Keeps None wr (wr.drew.alloc (.cells #[.int .i64 c] 3)) := kd.alloc _
        have kSC : Keeps None wr ((wr.drew.alloc (.cells #[.int .i64 s] 3)).alloc (.cells #[.int .i64 c] 3)) := kS.alloc _
        have kCS : Keeps None wr ((wr.drew.alloc (.cells #[.int .i64 c] 3)).alloc (.cells #[.int .i64 s] 3)) := kC.alloc _
        refine two_ (i := 2) (j := 6) (oi := ({ dst := some 30, op := Op.buildSlice 27 1 #[(0, Operand.tmp 29)], type := 27, pos := "tally.go:47", after := #[{ on := 1, ground := Ground.data }], guard := Option.none } : Oper)) (oj := ({ dst := some 34, op := Op.buildSlice 27 1 #[(0, Operand.tmp 33)], type := 27, pos := "tally.go:47", after := #[{ on := 5, ground := Ground.data }], guard := Option.none } : Oper)) (Ni := some 30) (Nj := some 34) #[true, true, true, false, true, true, false, false, false, false] #[true, true, false, false, true, true, true, false, false, false] rfl rfl rfl rfl (by kernel_rfl) (by decide) (by decide) ?_ ?_
        · intro KK hKK
          refine value_ (wanted_none rfl) rfl (w1 := wr.drew.alloc (.cells #[.int .i64 s] 3)) (v := .slice (some ⟨(wr.drew).heap.size, 0, Option.none⟩) 1 1) (by go_simp) (hKK.out _ _ (⟨(h2.blk1.grew kS).cell 0 _ rfl, (h2.blk2.grew kS).cell 0 _ rfl⟩) (fun hSS => ?_))
          try simp only [Act.put, List.setIfInBounds_toArray, List.set_cons_zero, List.set_cons_succ]
          refine two_ (i := 3) (j := 6) (oi := ({ dst := some 31, op := Op.call { callee := Callee.builtin Builtin.append, args := #[Operand.tmp 28, Operand.tmp 30], argTypes := #[27, 27] }, type := 27, pos := "tally.go:47", after := #[{ on := 0, ground := Ground.data }, { on := 2, ground := Ground.data }], guard := Option.none } : Oper)) (oj := ({ dst := some 34, op := Op.buildSlice 27 1 #[(0, Operand.tmp 33)], type := 27, pos := "tally.go:47", after := #[{ on := 5, ground := Ground.data }], guard := Option.none } : Oper)) (Ni := some 31) (Nj := some 34) #[true, true, true, true, true, true, false, false, false, false] #[true, true, true, false, true, true, true, false, false, false] rfl rfl rfl rfl (by kernel_rfl) (by decide) (by decide) ?_ ?_
          · have hk1 := kS
            have hbs := Blk.new wr.drew 3 [.int .i64 s]
            intro KK hKK
            refine step_append_row _ (wanted_none rfl) rfl (.tmp 28) (.tmp 30) 27 rfl w.heap.size 3 i0 (.int .i64 0) 1 8 Try.underlying27 hi hz0 hz1 hz2 rfl (by decide) (.slice A1 xs.length d1) xs.length (xs.map (Value.int .i64)) rfl (h2.row1.grew hk1).raw (some ⟨wr.drew.heap.size, 0, Option.none⟩) 1 1 [.int .i64 s] rfl rfl (fun e => by cases e) (src_at hbs) (ints_oneCell _ [s]) (by unfold maxLen; omega) (by omega) (by have := hk1.size; omega) ?_
            intro v1' wA hown1 hkA hlA
            have hrA : Row .i64 3 wA w.heap.size v1' (xs ++ [s]) := Row.of_append rfl rfl hown1
            have hr2A := (h2.row2.grew hk1).keeps hkA (fun b e f => (h2.far1 b f).2.2 e)
            refine hKK.out _ _ ⟨((h2.blk1.grew hk1).keeps hkA (fun e => (h2.far1 _ e).1 rfl)).cell 0 _ rfl, ((h2.blk2.grew hk1).keeps hkA (fun e => (h2.far1 _ e).2.1 rfl)).cell 0 _ rfl⟩ (fun hSS => ?_)
            try simp only [Act.put, List.setIfInBounds_toArray, List.set_cons_zero, List.set_cons_succ]
            refine one_ (i := 6) (oi := ({ dst := some 34, op := Op.buildSlice 27 1 #[(0, Operand.tmp 33)], type := 27, pos := "tally.go:47", after := #[{ on := 5, ground := Ground.data }], guard := Option.none } : Oper)) (N := some 34) #[true, true, true, true, true, true, true, false, false, false] rfl rfl (by kernel_rfl) (by decide) ?_
            intro KK hKK
            have hk2 : Keeps None wA (wA.alloc (.cells #[.int .i64 c] 3)) := (Keeps.refl _ _).alloc _
            have hbc := Blk.new wA 3 [.int .i64 c]
            refine value_ (wanted_none rfl) rfl (w1 := wA.alloc (.cells #[.int .i64 c] 3)) (v := .slice (some ⟨(wA).heap.size, 0, Option.none⟩) 1 1) (by go_simp) (hKK.out _ _ (⟨(((h2.blk1.grew hk1).keeps hkA (fun e => (h2.far1 _ e).1 rfl)).grew hk2).cell 0 _ rfl, (((h2.blk2.grew hk1).keeps hkA (fun e => (h2.far1 _ e).2.1 rfl)).grew hk2).cell 0 _ rfl⟩) (fun hSS => ?_))
            try simp only [Act.put, List.setIfInBounds_toArray, List.set_cons_zero, List.set_cons_succ]
            refine one_ (i := 7) (oi := ({ dst := some 35, op := Op.call { callee := Callee.builtin Builtin.append, args := #[Operand.tmp 32, Operand.tmp 34], argTypes := #[27, 27] }, type := 27, pos := "tally.go:47", after := #[{ on := 4, ground := Ground.data }, { on := 6, ground := Ground.data }, { on := 3, ground := Ground.chain }], guard := Option.none } : Oper)) (N := some 35) #[true, true, true, true, true, true, true, true, false, false] rfl rfl (by kernel_rfl) (by decide) ?_
            intro KK hKK
            refine step_append_row _ (wanted_none rfl) rfl (.tmp 32) (.tmp 34) 27 rfl w.heap.size 3 i0 (.int .i64 0) 1 8 Try.underlying27 hi hz0 hz1 hz2 rfl (by decide) (.slice A2 ys.length d2) ys.length (ys.map (Value.int .i64)) rfl (hr2A.grew hk2).raw (some ⟨wA.heap.size, 0, Option.none⟩) 1 1 [.int .i64 c] rfl rfl (fun e => by cases e) (src_at hbc) (ints_oneCell _ [c]) (by unfold maxLen; omega) (by omega) (by have := hk1.size; have := hkA.size; have := hk2.size; omega) ?_
            intro v2' wB hown2 hkB hlB
            have hrB : Row .i64 3 wB w.heap.size v2' (ys ++ [c]) := Row.of_append rfl rfl hown2
            obtain ⟨t1, t2, t3, t4, t5, t8, t6, t7⟩ := h2.more hK ⟨Nat.le_refl _, Nat.le_refl _, by omega⟩ hk1 hrA hkA hlA hk2 hrB hkB hlB
            refine hKK.out _ _ ⟨t3, t4⟩ (fun hSS => ?_)
            try simp only [Act.put, List.setIfInBounds_toArray, List.set_cons_zero, List.set_cons_succ]
            obtain ⟨A1', c1', ev1⟩ := hrA.slice
            obtain rfl : v1' = .slice A1' (xs.length + 1) c1' := ev1.trans (by simp)
            obtain ⟨A2', c2', ev2⟩ := hrB.slice
            obtain rfl : v2' = .slice A2' (ys.length + 1) c2' := ev2.trans (by simp)
            refine last_ (i := 8) (oi := ({ dst := Option.none, op := Op.store 27 (Operand.tmp 3) (Operand.tmp 31), type := 0, pos := "tally.go:47", after := #[{ on := 3, ground := Ground.data }, { on := 7, ground := Ground.chain }, { on := 0, ground := Ground.phase }, { on := 1, ground := Ground.phase }, { on := 2, ground := Ground.phase }, { on := 3, ground := Ground.phase }, { on := 4, ground := Ground.textOnly Departure.inlinedCapture }, { on := 5, ground := Ground.textOnly Departure.lateStores }, { on := 6, ground := Ground.textOnly Departure.inlinedCapture }, { on := 7, ground := Ground.textOnly Departure.lateStoresUnsure }], guard := Option.none } : Oper)) (N := Option.none) #[true, true, true, true, true, true, true, true, true, false] rfl rfl (by kernel_rfl) (by decide) ?_
            intro KK hKK
            refine skip_ (wanted_none rfl) rfl (w1 := wB.setCell ⟨w.heap.size, 0, Option.none⟩ (.slice A1' (xs.length + 1) c1')) (by go_simp) (hKK.out _ _ ?_)
            try simp only [Act.put, List.setIfInBounds_toArray, List.set_cons_zero, List.set_cons_succ]
            refine last_ (i := 9) (oi := ({ dst := Option.none, op := Op.store 27 (Operand.tmp 4) (Operand.tmp 35), type := 0, pos := "tally.go:47", after := #[{ on := 7, ground := Ground.data }, { on := 8, ground := Ground.chain }, { on := 0, ground := Ground.phase }, { on := 1, ground := Ground.phase }, { on := 2, ground := Ground.phase }, { on := 3, ground := Ground.phase }, { on := 4, ground := Ground.phase }, { on := 5, ground := Ground.phase }, { on := 6, ground := Ground.phase }, { on := 7, ground := Ground.phase }, { on := 8, ground := Ground.phase }], guard := Option.none } : Oper)) (N := Option.none) #[true, true, true, true, true, true, true, true, true, true] rfl rfl (by kernel_rfl) (by decide) ?_
            intro KK hKK
            refine skip_ (wanted_none rfl) rfl (w1 := (wB.setCell ⟨w.heap.size, 0, Option.none⟩ (.slice A1' (xs.length + 1) c1')).setCell ⟨w.heap.size + 1, 0, Option.none⟩ (.slice A2' (ys.length + 1) c2')) (by go_simp) (hKK.out _ _ ?_)
            try simp only [Act.put, List.setIfInBounds_toArray, List.set_cons_zero, List.set_cons_succ]
            refine done_ (by kernel_rfl) ?_
            have TT := Lib.hid (And.intro t1 t2)
            clear t1 t2 t3 t4 t5 t6 t7 t8 ev1 ev2 hSS
            go_wp2
            go_roundw
            case rel => exact ⟨k + 1, _, _, xs ++ [s], ys ++ [c], by omega, by go_num, TT.out.1, Lib.hid (by rw [HT.out, hasF_snoc, ansF_snoc, ← HH.out, ← hE.out.1, ← hE.out.2]; simp), by simp; omega, by simp; omega, TT.out.2⟩
            case measure => simp [intOf]; omega
          · intro KK hKK
            refine value_ (wanted_none rfl) rfl (w1 := (wr.drew.alloc (.cells #[.int .i64 s] 3)).alloc (.cells #[.int .i64 c] 3)) (v := .slice (some ⟨((wr.drew.alloc (.cells #[.int .i64 s] 3))).heap.size, 0, Option.none⟩) 1 1) (by go_simp) (hKK.out _ _ (⟨(h2.blk1.grew kSC).cell 0 _ rfl, (h2.blk2.grew kSC).cell 0 _ rfl⟩) (fun hSS => ?_))
            try simp only [Act.put, List.setIfInBounds_toArray, List.set_cons_zero, List.set_cons_succ]
            have hk1 := kSC
            have hbs := (Blk.new wr.drew 3 [.int .i64 s]).alloc (.cells #[.int .i64 c] 3)
            refine one_ (i := 3) (oi := ({ dst := some 31, op := Op.call { callee := Callee.builtin Builtin.append, args := #[Operand.tmp 28, Operand.tmp 30], argTypes := #[27, 27] }, type := 27, pos := "tally.go:47", after := #[{ on := 0, ground := Ground.data }, { on := 2, ground := Ground.data }], guard := Option.none } : Oper)) (N := some 31) #[true, true, true, true, true, true, true, false, false, false] rfl rfl (by kernel_rfl) (by decide) ?_
            intro KK hKK
            refine step_append_row _ (wanted_none rfl) rfl (.tmp 28) (.tmp 30) 27 rfl w.heap.size 3 i0 (.int .i64 0) 1 8 Try.underlying27 hi hz0 hz1 hz2 rfl (by decide) (.slice A1 xs.length d1) xs.length (xs.map (Value.int .i64)) rfl (h2.row1.grew hk1).raw (some ⟨wr.drew.heap.size, 0, Option.none⟩) 1 1 [.int .i64 s] rfl rfl (fun e => by cases e) (src_at hbs) (ints_oneCell _ [s]) (by unfold maxLen; omega) (by omega) (by have := hk1.size; omega) ?_
            intro v1' wA hown1 hkA hlA
            have hrA : Row .i64 3 wA w.heap.size v1' (xs ++ [s]) := Row.of_append rfl rfl hown1
            have hr2A := (h2.row2.grew hk1).keeps hkA (fun b e f => (h2.far1 b f).2.2 e)
            refine hKK.out _ _ ⟨((h2.blk1.grew hk1).keeps hkA (fun e => (h2.far1 _ e).1 rfl)).cell 0 _ rfl, ((h2.blk2.grew hk1).keeps hkA (fun e => (h2.far1 _ e).2.1 rfl)).cell 0 _ rfl⟩ (fun hSS => ?_)
            try simp only [Act.put, List.setIfInBounds_toArray, List.set_cons_zero, List.set_cons_succ]
            have hk2 := Keeps.refl None wA
            have hbc := (Blk.new (wr.drew.alloc (.cells #[.int .i64 s] 3)) 3 [.int .i64 c]).keeps hkA (fun e => by have h' := (h2.row1.lt _ e).2; first | (simp at h'; done) | (simp at h'; omega))
            refine one_ (i := 7) (oi := ({ dst := some 35, op := Op.call { callee := Callee.builtin Builtin.append, args := #[Operand.tmp 32, Operand.tmp 34], argTypes := #[27, 27] }, type := 27, pos := "tally.go:47", after := #[{ on := 4, ground := Ground.data }, { on := 6, ground := Ground.data }, { on := 3, ground := Ground.chain }], guard := Option.none } : Oper)) (N := some 35) #[true, true, true, true, true, true, true, true, false, false] rfl rfl (by kernel_rfl) (by decide) ?_
            intro KK hKK
            refine step_append_row _ (wanted_none rfl) rfl (.tmp 32) (.tmp 34) 27 rfl w.heap.size 3 i0 (.int .i64 0) 1 8 Try.underlying27 hi hz0 hz1 hz2 rfl (by decide) (.slice A2 ys.length d2) ys.length (ys.map (Value.int .i64)) rfl (hr2A.grew hk2).raw (some ⟨(wr.drew.alloc (.cells #[.int .i64 s] 3)).heap.size, 0, Option.none⟩) 1 1 [.int .i64 c] rfl rfl (fun e => by cases e) (src_at hbc) (ints_oneCell _ [c]) (by unfold maxLen; omega) (by omega) (by have := hk1.size; have := hkA.size; have := hk2.size; omega) ?_
            intro v2' wB hown2 hkB hlB
            have hrB : Row .i64 3 wB w.heap.size v2' (ys ++ [c]) := Row.of_append rfl rfl hown2
            obtain ⟨t1, t2, t3, t4, t5, t8, t6, t7⟩ := h2.more hK ⟨Nat.le_refl _, Nat.le_refl _, by omega⟩ hk1 hrA hkA hlA hk2 hrB hkB hlB
            refine hKK.out _ _ ⟨t3, t4⟩ (fun hSS => ?_)
            try simp only [Act.put, List.setIfInBounds_toArray, List.set_cons_zero, List.set_cons_succ]
            obtain ⟨A1', c1', ev1⟩ := hrA.slice
            obtain rfl : v1' = .slice A1' (xs.length + 1) c1' := ev1.trans (by simp)
            obtain ⟨A2', c2', ev2⟩ := hrB.slice
            obtain rfl : v2' = .slice A2' (ys.length + 1) c2' := ev2.trans (by simp)
            refine last_ (i := 8) (oi := ({ dst := Option.none, op := Op.store 27 (Operand.tmp 3) (Operand.tmp 31), type := 0, pos := "tally.go:47", after := #[{ on := 3, ground := Ground.data }, { on := 7, ground := Ground.chain }, { on := 0, ground := Ground.phase }, { on := 1, ground := Ground.phase }, { on := 2, ground := Ground.phase }, { on := 3, ground := Ground.phase }, { on := 4, ground := Ground.textOnly Departure.inlinedCapture }, { on := 5, ground := Ground.textOnly Departure.lateStores }, { on := 6, ground := Ground.textOnly Departure.inlinedCapture }, { on := 7, ground := Ground.textOnly Departure.lateStoresUnsure }], guard := Option.none } : Oper)) (N := Option.none) #[true, true, true, true, true, true, true, true, true, false] rfl rfl (by kernel_rfl) (by decide) ?_
            intro KK hKK
            refine skip_ (wanted_none rfl) rfl (w1 := wB.setCell ⟨w.heap.size, 0, Option.none⟩ (.slice A1' (xs.length + 1) c1')) (by go_simp) (hKK.out _ _ ?_)
            try simp only [Act.put, List.setIfInBounds_toArray, List.set_cons_zero, List.set_cons_succ]
            refine last_ (i := 9) (oi := ({ dst := Option.none, op := Op.store 27 (Operand.tmp 4) (Operand.tmp 35), type := 0, pos := "tally.go:47", after := #[{ on := 7, ground := Ground.data }, { on := 8, ground := Ground.chain }, { on := 0, ground := Ground.phase }, { on := 1, ground := Ground.phase }, { on := 2, ground := Ground.phase }, { on := 3, ground := Ground.phase }, { on := 4, ground := Ground.phase }, { on := 5, ground := Ground.phase }, { on := 6, ground := Ground.phase }, { on := 7, ground := Ground.phase }, { on := 8, ground := Ground.phase }], guard := Option.none } : Oper)) (N := Option.none) #[true, true, true, true, true, true, true, true, true, true] rfl rfl (by kernel_rfl) (by decide) ?_
            intro KK hKK
            refine skip_ (wanted_none rfl) rfl (w1 := (wB.setCell ⟨w.heap.size, 0, Option.none⟩ (.slice A1' (xs.length + 1) c1')).setCell ⟨w.heap.size + 1, 0, Option.none⟩ (.slice A2' (ys.length + 1) c2')) (by go_simp) (hKK.out _ _ ?_)
            try simp only [Act.put, List.setIfInBounds_toArray, List.set_cons_zero, List.set_cons_succ]
            refine done_ (by kernel_rfl) ?_
            have TT := Lib.hid (And.intro t1 t2)
            clear t1 t2 t3 t4 t5 t6 t7 t8 ev1 ev2 hSS
            go_wp2
            go_roundw
            case rel => exact ⟨k + 1, _, _, xs ++ [s], ys ++ [c], by omega, by go_num, TT.out.1, Lib.hid (by rw [HT.out, hasF_snoc, ansF_snoc, ← HH.out, ← hE.out.1, ← hE.out.2]; simp), by simp; omega, by simp; omega, TT.out.2⟩
            case measure => simp [intOf]; omega
        · intro KK hKK
          refine value_ (wanted_none rfl) rfl (w1 := wr.drew.alloc (.cells #[.int .i64 c] 3)) (v := .slice (some ⟨(wr.drew).heap.size, 0, Option.none⟩) 1 1) (by go_simp) (hKK.out _ _ (⟨(h2.blk1.grew kC).cell 0 _ rfl, (h2.blk2.grew kC).cell 0 _ rfl⟩) (fun hSS => ?_))
          try simp only [Act.put, List.setIfInBounds_toArray, List.set_cons_zero, List.set_cons_succ]
          refine one_ (i := 2) (oi := ({ dst := some 30, op := Op.buildSlice 27 1 #[(0, Operand.tmp 29)], type := 27, pos := "tally.go:47", after := #[{ on := 1, ground := Ground.data }], guard := Option.none } : Oper)) (N := some 30) #[true, true, true, false, true, true, true, false, false, false] rfl rfl (by kernel_rfl) (by decide) ?_
          intro KK hKK
          refine value_ (wanted_none rfl) rfl (w1 := (wr.drew.alloc (.cells #[.int .i64 c] 3)).alloc (.cells #[.int .i64 s] 3)) (v := .slice (some ⟨((wr.drew.alloc (.cells #[.int .i64 c] 3))).heap.size, 0, Option.none⟩) 1 1) (by go_simp) (hKK.out _ _ (⟨(h2.blk1.grew kCS).cell 0 _ rfl, (h2.blk2.grew kCS).cell 0 _ rfl⟩) (fun hSS => ?_))
          try simp only [Act.put, List.setIfInBounds_toArray, List.set_cons_zero, List.set_cons_succ]
          have hk1 := kCS
          have hbs := Blk.new (wr.drew.alloc (.cells #[.int .i64 c] 3)) 3 [.int .i64 s]
          refine one_ (i := 3) (oi := ({ dst := some 31, op := Op.call { callee := Callee.builtin Builtin.append, args := #[Operand.tmp 28, Operand.tmp 30], argTypes := #[27, 27] }, type := 27, pos := "tally.go:47", after := #[{ on := 0, ground := Ground.data }, { on := 2, ground := Ground.data }], guard := Option.none } : Oper)) (N := some 31) #[true, true, true, true, true, true, true, false, false, false] rfl rfl (by kernel_rfl) (by decide) ?_
          intro KK hKK
          refine step_append_row _ (wanted_none rfl) rfl (.tmp 28) (.tmp 30) 27 rfl w.heap.size 3 i0 (.int .i64 0) 1 8 Try.underlying27 hi hz0 hz1 hz2 rfl (by decide) (.slice A1 xs.length d1) xs.length (xs.map (Value.int .i64)) rfl (h2.row1.grew hk1).raw (some ⟨(wr.drew.alloc (.cells #[.int .i64 c] 3)).heap.size, 0, Option.none⟩) 1 1 [.int .i64 s] rfl rfl (fun e => by cases e) (src_at hbs) (ints_oneCell _ [s]) (by unfold maxLen; omega) (by omega) (by have := hk1.size; omega) ?_
          intro v1' wA hown1 hkA hlA
          have hrA : Row .i64 3 wA w.heap.size v1' (xs ++ [s]) := Row.of_append rfl rfl hown1
          have hr2A := (h2.row2.grew hk1).keeps hkA (fun b e f => (h2.far1 b f).2.2 e)
          refine hKK.out _ _ ⟨((h2.blk1.grew hk1).keeps hkA (fun e => (h2.far1 _ e).1 rfl)).cell 0 _ rfl, ((h2.blk2.grew hk1).keeps hkA (fun e => (h2.far1 _ e).2.1 rfl)).cell 0 _ rfl⟩ (fun hSS => ?_)
          try simp only [Act.put, List.setIfInBounds_toArray, List.set_cons_zero, List.set_cons_succ]
          have hk2 := Keeps.refl None wA
          have hbc := ((Blk.new wr.drew 3 [.int .i64 c]).alloc (.cells #[.int .i64 s] 3)).keeps hkA (fun e => by have h' := (h2.row1.lt _ e).2; first | (simp at h'; done) | (simp at h'; omega))
          refine one_ (i := 7) (oi := ({ dst := some 35, op := Op.call { callee := Callee.builtin Builtin.append, args := #[Operand.tmp 32, Operand.tmp 34], argTypes := #[27, 27] }, type := 27, pos := "tally.go:47", after := #[{ on := 4, ground := Ground.data }, { on := 6, ground := Ground.data }, { on := 3, ground := Ground.chain }], guard := Option.none } : Oper)) (N := some 35) #[true, true, true, true, true, true, true, true, false, false] rfl rfl (by kernel_rfl) (by decide) ?_
          intro KK hKK
          refine step_append_row _ (wanted_none rfl) rfl (.tmp 32) (.tmp 34) 27 rfl w.heap.size 3 i0 (.int .i64 0) 1 8 Try.underlying27 hi hz0 hz1 hz2 rfl (by decide) (.slice A2 ys.length d2) ys.length (ys.map (Value.int .i64)) rfl (hr2A.grew hk2).raw (some ⟨wr.drew.heap.size, 0, Option.none⟩) 1 1 [.int .i64 c] rfl rfl (fun e => by cases e) (src_at hbc) (ints_oneCell _ [c]) (by unfold maxLen; omega) (by omega) (by have := hk1.size; have := hkA.size; have := hk2.size; omega) ?_
          intro v2' wB hown2 hkB hlB
          have hrB : Row .i64 3 wB w.heap.size v2' (ys ++ [c]) := Row.of_append rfl rfl hown2
          obtain ⟨t1, t2, t3, t4, t5, t8, t6, t7⟩ := h2.more hK ⟨Nat.le_refl _, Nat.le_refl _, by omega⟩ hk1 hrA hkA hlA hk2 hrB hkB hlB
          refine hKK.out _ _ ⟨t3, t4⟩ (fun hSS => ?_)
          try simp only [Act.put, List.setIfInBounds_toArray, List.set_cons_zero, List.set_cons_succ]
          obtain ⟨A1', c1', ev1⟩ := hrA.slice
          obtain rfl : v1' = .slice A1' (xs.length + 1) c1' := ev1.trans (by simp)
          obtain ⟨A2', c2', ev2⟩ := hrB.slice
          obtain rfl : v2' = .slice A2' (ys.length + 1) c2' := ev2.trans (by simp)
          refine last_ (i := 8) (oi := ({ dst := Option.none, op := Op.store 27 (Operand.tmp 3) (Operand.tmp 31), type := 0, pos := "tally.go:47", after := #[{ on := 3, ground := Ground.data }, { on := 7, ground := Ground.chain }, { on := 0, ground := Ground.phase }, { on := 1, ground := Ground.phase }, { on := 2, ground := Ground.phase }, { on := 3, ground := Ground.phase }, { on := 4, ground := Ground.textOnly Departure.inlinedCapture }, { on := 5, ground := Ground.textOnly Departure.lateStores }, { on := 6, ground := Ground.textOnly Departure.inlinedCapture }, { on := 7, ground := Ground.textOnly Departure.lateStoresUnsure }], guard := Option.none } : Oper)) (N := Option.none) #[true, true, true, true, true, true, true, true, true, false] rfl rfl (by kernel_rfl) (by decide) ?_
          intro KK hKK
          refine skip_ (wanted_none rfl) rfl (w1 := wB.setCell ⟨w.heap.size, 0, Option.none⟩ (.slice A1' (xs.length + 1) c1')) (by go_simp) (hKK.out _ _ ?_)
          try simp only [Act.put, List.setIfInBounds_toArray, List.set_cons_zero, List.set_cons_succ]
          refine last_ (i := 9) (oi := ({ dst := Option.none, op := Op.store 27 (Operand.tmp 4) (Operand.tmp 35), type := 0, pos := "tally.go:47", after := #[{ on := 7, ground := Ground.data }, { on := 8, ground := Ground.chain }, { on := 0, ground := Ground.phase }, { on := 1, ground := Ground.phase }, { on := 2, ground := Ground.phase }, { on := 3, ground := Ground.phase }, { on := 4, ground := Ground.phase }, { on := 5, ground := Ground.phase }, { on := 6, ground := Ground.phase }, { on := 7, ground := Ground.phase }, { on := 8, ground := Ground.phase }], guard := Option.none } : Oper)) (N := Option.none) #[true, true, true, true, true, true, true, true, true, true] rfl rfl (by kernel_rfl) (by decide) ?_
          intro KK hKK
          refine skip_ (wanted_none rfl) rfl (w1 := (wB.setCell ⟨w.heap.size, 0, Option.none⟩ (.slice A1' (xs.length + 1) c1')).setCell ⟨w.heap.size + 1, 0, Option.none⟩ (.slice A2' (ys.length + 1) c2')) (by go_simp) (hKK.out _ _ ?_)
          try simp only [Act.put, List.setIfInBounds_toArray, List.set_cons_zero, List.set_cons_succ]
          refine done_ (by kernel_rfl) ?_
          have TT := Lib.hid (And.intro t1 t2)
          clear t1 t2 t3 t4 t5 t6 t7 t8 ev1 ev2 hSS
          go_wp2
          go_roundw
          case rel => exact ⟨k + 1, _, _, xs ++ [s], ys ++ [c], by omega, by go_num, TT.out.1, Lib.hid (by rw [HT.out, hasF_snoc, ansF_snoc, ← HH.out, ← hE.out.1, ← hE.out.2]; simp), by simp; omega, by simp; omega, TT.out.2⟩
          case measure => simp [intOf]; omega
    · obtain rfl : k = grp.length := by omega
      go_wp2
      go_ret
      have E := hE.out
      rw [List.take_of_length_le (Nat.le_refl _)] at E
      refine ⟨rfl, ⟨v1, v2, ?_⟩, hK⟩
      rw [← E.1, ← E.2]; exact h2
end Go.Proofs.Ytghbgcmhahndkaa
