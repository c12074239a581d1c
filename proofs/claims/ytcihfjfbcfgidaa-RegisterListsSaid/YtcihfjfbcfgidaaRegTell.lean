/- The machine's tell, ask, Begin. -/
import Derived.Test.YtcihfjfbcfgidaaRegDone
import Derived.Test.YtcihfjfbcfgidaaMsgInfo
namespace Go.Proofs.Ytcihfjfbcfgidaa
open Go.RowKit Go.Maps Go.Proofs.YtcihfjfbcfgidaaW.PrintLast

theorem step_append_row {P : Program} (w : World) {ops : Array Oper} {o : Oper} {a : Act} {N : Option Tmp} {K : Act → World → Prop} {Q : Exit → Act → World → Prop} (hw : Region.wanted o (yielded ops a.tmps) = true) (hN : o.dst = N) (s x : Operand) (t : TypeId)
    (ho : o.op = .call { callee := .builtin .append, args := #[s, x], argTypes := #[t, t] })
    (base : Nat) (e : TypeId) (i : TypeInfo) (z : Value) (size bytes : Nat) (ht : P.underlying t = some (.slice e)) (hi : P.info? e = some i) (hz : i.zero = some z)
    (hsize : i.size = size) (hby : i.bytes = bytes) (hzs : z.cells.size = size) (hsz : 0 < size)
    (v : Value) (n : Nat) (xs : List Value) (hs : a.eval s = v) (hown : w.ownsRow base e size v n xs)
    (A : Option Addr) (m c : Nat) (news : List Value) (hx : a.eval x = .slice A m c) (hl : news.length = m * size) (hnil : A = Option.none → c = 0)
    (hsrc : 0 < news.length → ∃ ad, A = some ad ∧ ∀ j u, news[j]? = some u → w.cell? (ad.add j) = some u) (h1 : ∀ u ∈ news, u.oneCell' = true)
    (h63 : n + m ≤ maxLen) (hbytes : (n + m) * bytes ≤ 140737488355328) (hbase : base ≤ w.heap.size)
    (h : ∀ v' w', w'.ownsRow base e size v' (n + m) (xs ++ news) → Keeps (OwnB v) w w' → (v'.ownBlock = v.ownBlock ∨ v'.ownBlock = some w.heap.size) → K (a.put N v') w') :
    if Region.wanted o (yielded ops a.tmps) = true then Oper.wp P o a w K Q else K (a.put N undef) w := by
  obtain ⟨v', w', hr, h2, h3, h4⟩ := run_append_row (P := P) w base t o.type e i z size bytes ht hi hz hsize hby hzs hsz v n xs hown A m c news hl hnil hsrc h1 h63 hbytes hbase
  subst hN
  rw [if_pos hw]
  unfold Oper.wp execOp
  simp only [ho, resolve, invoke, builtin, Sem.run_bind, Sem.run_pure, Result.andThen_ok, List.map_toArray, List.map_cons, List.map_nil, hs, hx, hr]
  exact h v' w' h2 h3 h4

theorem src_cells {w : World} {g t : Nat} {cs : List Value} (h : Blk w g t cs) : 0 < cs.length → ∃ ad, some (⟨g, 0, Option.none⟩ : Addr) = some ad ∧ ∀ j u, cs[j]? = some u → w.cell? (ad.add j) = some u :=
  fun _ => ⟨_, rfl, fun j u hu => by rw [Addr.add_lit, Nat.zero_add]; exact h.cell j u hu⟩

theorem owns_slice {w : World} {base e size n : Nat} {v : Value} {xs : List Value} (h : w.ownsRow base e size v n xs) : ∃ A c, v = .slice A n c := by
  rcases h.2 with ⟨rfl, h0⟩ | ⟨g, cap, cur, rfl, _⟩
  · exact ⟨Option.none, 0, by rw [h0]⟩
  · exact ⟨_, cap, rfl⟩
/-- A message that a machine tells to one server. -/
def tellCells (kind client op round k0 k1 k2 k3 s1 s2 : Int) (m : Int × Value) : List Value :=
  [.int .i64 kind, .bool true, .int .i64 client, .bool false, .int .i64 m.1, .int .i64 op, .int .i64 round, .int .i64 k0, .int .i64 k1, .int .i64 k2, .int .i64 k3, .int .i64 s1, .int .i64 s2, .int .i64 0, .int .i64 0, m.2,
   .int .i64 0, .int .i64 0, .int .i64 0, .string ⟨#[]⟩, .int .i64 0, .int .i64 0, .int .i64 0, .int .i64 0, .int .i64 0, .int .i64 0, .slice Option.none 0 0, .slice Option.none 0 0, .slice Option.none 0 0, .bool false]
def tellsCells (kind client op round k0 k1 k2 k3 s1 s2 : Int) (ms : List (Int × Value)) : List Value := ms.flatMap (tellCells kind client op round k0 k1 k2 k3 s1 s2)
theorem tellsCells_length (kind client op round k0 k1 k2 k3 s1 s2 : Int) (ms : List (Int × Value)) : (tellsCells kind client op round k0 k1 k2 k3 s1 s2 ms).length = ms.length * 30 := by
  induction ms with
  | nil => rfl
  | cons m ms ih =>
    unfold tellsCells at ih ⊢
    rw [List.flatMap_cons, List.length_append, ih]
    simp [tellCells]
    omega
theorem tellsCells_snoc (kind client op round k0 k1 k2 k3 s1 s2 : Int) (ms : List (Int × Value)) (m : Int × Value) : tellsCells kind client op round k0 k1 k2 k3 s1 s2 (ms ++ [m]) = tellsCells kind client op round k0 k1 k2 k3 s1 s2 ms ++ tellCells kind client op round k0 k1 k2 k3 s1 s2 m := by
  simp [tellsCells]

/-- No block of one is a block of the other. -/
def Unlike (u v : Value) : Prop := ∀ b, u.ownBlock = some b → ¬ v.ownBlock = some b
theorem Unlike.symm {u v : Value} (h : Unlike u v) : Unlike v u := fun b h1 h2 => h b h2 h1
/-- A row of messages that are told, each with data of its own. -/
structure MsgRow (w : World) (base : Nat) (kind client op round k0 k1 k2 k3 s1 s2 : Int) (v : Value) (l zs : List Int) (ms : List (Int × Value)) : Prop where
  own : w.ownsRow base 66 30 v ms.length (tellsCells kind client op round k0 k1 k2 k3 s1 s2 ms)
  to : ms.map (·.1) = l
  data : ∀ m ∈ ms, Row .u8 5 w base m.2 zs
  far : ∀ m ∈ ms, Unlike v m.2
  apart : (ms.map (·.2)).Pairwise Unlike
theorem MsgRow.nil (w : World) (base : Nat) (kind client op round k0 k1 k2 k3 s1 s2 : Int) (zs : List Int) : MsgRow w base kind client op round k0 k1 k2 k3 s1 s2 (.slice Option.none 0 0) [] zs [] :=
  ⟨World.ownsRow_nil _ _ _ _, rfl, (fun _ h => by cases h), (fun _ h => by cases h), List.Pairwise.nil⟩
theorem MsgRow.keeps {S : Nat → Prop} {w w' : World} {base : Nat} {kind client op round k0 k1 k2 k3 s1 s2 : Int} {v : Value} {l zs : List Int} {ms : List (Int × Value)} (h : MsgRow w base kind client op round k0 k1 k2 k3 s1 s2 v l zs ms) (hk : Keeps S w w') (hS : ∀ b, base ≤ b → b < w.heap.size → ¬ S b) : MsgRow w' base kind client op round k0 k1 k2 k3 s1 s2 v l zs ms :=
  ⟨owns_keeps h.own hk (fun g e => hS g (World.ownsRow.lt h.own g e).1 (World.ownsRow.lt h.own g e).2), h.to, fun m hm => (h.data m hm).keeps hk (fun g e => hS g ((h.data m hm).lt g e).1 ((h.data m hm).lt g e).2), h.far, h.apart⟩
theorem MsgRow.grew {w w' : World} {base : Nat} {kind client op round k0 k1 k2 k3 s1 s2 : Int} {v : Value} {l zs : List Int} {ms : List (Int × Value)} (h : MsgRow w base kind client op round k0 k1 k2 k3 s1 s2 v l zs ms) (hk : Keeps None w w') : MsgRow w' base kind client op round k0 k1 k2 k3 s1 s2 v l zs ms := h.keeps hk (fun _ _ _ => id)
theorem MsgRow.down {w : World} {base base' : Nat} {kind client op round k0 k1 k2 k3 s1 s2 : Int} {v : Value} {l zs : List Int} {ms : List (Int × Value)} (h : MsgRow w base kind client op round k0 k1 k2 k3 s1 s2 v l zs ms) (hb : base' ≤ base) : MsgRow w base' kind client op round k0 k1 k2 k3 s1 s2 v l zs ms :=
  ⟨owns_base h.own (fun g e => Nat.le_trans hb (World.ownsRow.lt h.own g e).1), h.to, fun m hm => (h.data m hm).down hb, h.far, h.apart⟩
theorem MsgRow.more {wr w2 w3 w5 : World} {base B2 : Nat} {kind client op round k0 k1 k2 k3 s1 s2 : Int} {v v' u : Value} {l zs : List Int} {ms : List (Int × Value)} (x : Int) (h : MsgRow wr base kind client op round k0 k1 k2 k3 s1 s2 v l zs ms)
    (hu : Row .u8 5 w2 B2 u zs) (hB2 : wr.heap.size ≤ B2) (hbase : base ≤ wr.heap.size) (kA : Keeps None wr w2) (kB : Keeps None w2 w3) (hown : w5.ownsRow base 66 30 v' (ms.length + 1) (tellsCells kind client op round k0 k1 k2 k3 s1 s2 ms ++ tellCells kind client op round k0 k1 k2 k3 s1 s2 (x, u)))
    (hk : Keeps (OwnB v) w3 w5) (hloc : v'.ownBlock = v.ownBlock ∨ v'.ownBlock = some w3.heap.size) : MsgRow w5 base kind client op round k0 k1 k2 k3 s1 s2 v' (l ++ [x]) zs (ms ++ [(x, u)]) := by
  have z2 := kA.size
  have z3 := kB.size
  have hv := fun b (e : v.ownBlock = some b) => World.ownsRow.lt h.own b e
  have hU := fun b (e : u.ownBlock = some b) => hu.lt b e
  have hvu : ∀ b, v.ownBlock = some b → ¬ u.ownBlock = some b := fun b e f => by have := hv b e; have := hU b f; omega
  refine ⟨?_, by rw [List.map_append, h.to]; rfl, ?_, ?_, ?_⟩
  · rw [tellsCells_snoc, List.length_append]; exact hown
  · intro m hm
    rcases List.mem_append.1 hm with hm | hm
    · exact (((h.data m hm).grew kA).grew kB).keeps hk (fun b e f => h.far m hm b f e)
    · obtain rfl := List.mem_singleton.1 hm
      exact ((hu.grew kB).keeps hk (fun b e f => hvu b f e)).down (by omega)
  · intro m hm b e f
    rcases List.mem_append.1 hm with hm | hm
    · rcases hloc with q | q
      · exact h.far m hm b (q ▸ e) f
      · rw [q] at e; cases e
        have := ((h.data m hm).lt _ f).2; omega
    · obtain rfl := List.mem_singleton.1 hm
      rcases hloc with q | q
      · exact hvu b (q ▸ e) f
      · rw [q] at e; cases e
        have := (hU _ f).2; omega
  · rw [List.map_append]
    refine List.pairwise_append.2 ⟨h.apart, by simp, ?_⟩
    intro a ha c hc b e f
    obtain ⟨m, hm, rfl⟩ := List.mem_map.1 ha
    simp at hc
    subst hc
    have := ((h.data m hm).lt b e).2
    have := (hU b f).1
    omega

set_option maxRecDepth 100000 in
set_option maxHeartbeats 1600000 in
theorem tell_any (g : Nat) (client op round need k0 k1 k2 k3 : Int) (v : Value) (wr : Bool) (bl : Value) (size : Int) (st : Value) (kind : Int) (A : Option Addr) (cap : Nat) (l : List Int) (s1 s2 : Int) (B : Option Addr) (cap' : Nat) (zs : List Int) (w : World)
    (hB : Blk w g 109 (mcells client op round need k0 k1 k2 k3 v wr bl size st)) (hA : Nums .i64 w A l) (hl : l.length ≤ 1000) (hZ : Nums .u8 w B zs) (hz : zs.length ≤ 140737488351232) :
    Calls Try.prog 105 #[.pointer (some ⟨g, 0, Option.none⟩), .int .i64 kind, .slice A l.length cap, blkV (s1, s2) (.slice B zs.length cap')] w fun e w' => ∃ u ms, e = .returned u ∧ MsgRow w' w.heap.size kind client op round k0 k1 k2 k3 s1 s2 u l zs ms ∧ Keeps None w w' := by
  obtain ⟨iM, hiM, hzM0, hzM1, hzM2⟩ := info_parts infoMsg
  have hbX := Blk.new w 26 [.int .i64 s1, .int .i64 s2, .slice B zs.length cap']
  have kX := (Keeps.refl None w).alloc (.cells #[.int .i64 s1, .int .i64 s2, .slice B zs.length cap'] 26)
  simp only [blkV]
  go_enter Try.func105, Try.ntmps105
  go_wp2_with fail
  go_loopw [9, 14] (fun al i wr => ∃ (k : Nat) (ms : List (Int × Value)), k ≤ l.length ∧ i = .int .i64 k ∧ ms.length = k ∧ MsgRow wr (w.heap.size + 1) kind client op round k0 k1 k2 k3 s1 s2 al (l.take k) zs ms ∧ Keeps None (w.alloc (.cells #[.int .i64 s1, .int .i64 s2, .slice B zs.length cap'] 26)) wr) (fun _ i _ => l.length - (intOf i).toNat)
  case atStart => exact ⟨0, [], Nat.zero_le _, rfl, rfl, MsgRow.nil _ _ _ _ _ _ _ _ _ _ _ _ _, Keeps.refl _ _⟩
  case round =>
    obtain ⟨k, ms, hk, rfl, hml, hMR, hKX⟩ := hrel
    have hM := hMR.own
    have HMR := Lib.hid hMR
    clear hMR
    have hK := kX.trans hKX
    have HML := Lib.hid hml
    by_cases hlt : k < l.length
    · obtain ⟨x, b, o, rfl, hc, hs⟩ := (hA.grew hK).get k hlt
      obtain ⟨Am, cm, rfl⟩ := owns_slice hM
      have hBm := hB.grew hK
      have hXm := hbX.grew hKX
      have m0 := hBm.cell 0 _ rfl
      have m1 := hBm.cell 1 _ rfl
      have m2 := hBm.cell 2 _ rfl
      have m4 := hBm.cell 4 _ rfl
      have m5 := hBm.cell 5 _ rfl
      have m6 := hBm.cell 6 _ rfl
      have m7 := hBm.cell 7 _ rfl
      have x0 := hXm.cell 0 _ rfl
      have x1 := hXm.cell 1 _ rfl
      have x2 := hXm.cell 2 _ rfl
      have hmk : ms.length ≤ 1000 := by omega
      clear hml
      go_wp2_with fail
      refine start_ (ds := [28]) (S := (fun w' => Keeps None wr w')) #[false, false, false, false, false, false, false, false, false, false, false, false, false, false, false, false, false, false, false, false, false, false, false, false, false, false, false, false, false, false] (by kernel_rfl) rfl rfl ((Keeps.refl _ _).drew) (fun hS0 => ?_)
      refine pure_ (i := 0) (N := some 18) (v := .slice Am ms.length cm) #[true, false, false, false, false, false, false, false, false, false, false, false, false, false, false, false, false, false, false, false, false, false, false, false, false, false, false, false, false, false] rfl rfl (by kernel_rfl) (fun _ _ _ h => h) (Or.inl ⟨wanted_none rfl, fun w => by rfl⟩) rfl ?_
      try simp only [Act.put, List.setIfInBounds_toArray, List.set_cons_zero, List.set_cons_succ]
      refine pure_ (i := 1) (N := some 19) (v := .int .i64 kind) #[true, true, false, false, false, false, false, false, false, false, false, false, false, false, false, false, false, false, false, false, false, false, false, false, false, false, false, false, false, false] rfl rfl (by kernel_rfl) (fun _ _ _ h => h) (Or.inl ⟨wanted_none rfl, fun w => by rfl⟩) rfl ?_
      try simp only [Act.put, List.setIfInBounds_toArray, List.set_cons_zero, List.set_cons_succ]
      refine pure_ (i := 2) (N := some 20) (v := .pointer (some ⟨g, 0, Option.none⟩)) #[true, true, true, false, false, false, false, false, false, false, false, false, false, false, false, false, false, false, false, false, false, false, false, false, false, false, false, false, false, false] rfl rfl (by kernel_rfl) (fun _ _ _ h => h) (Or.inl ⟨wanted_none rfl, fun w => by rfl⟩) rfl ?_
      try simp only [Act.put, List.setIfInBounds_toArray, List.set_cons_zero, List.set_cons_succ]
      refine pure_ (i := 3) (N := some 21) (v := .pointer (some ⟨g, 0, Option.none⟩)) #[true, true, true, true, false, false, false, false, false, false, false, false, false, false, false, false, false, false, false, false, false, false, false, false, false, false, false, false, false, false] rfl rfl (by kernel_rfl) (fun _ _ _ h => h) (Or.inl ⟨wanted_none rfl, fun w => by go_simp⟩) rfl ?_
      try simp only [Act.put, List.setIfInBounds_toArray, List.set_cons_zero, List.set_cons_succ]
      refine pure_ (i := 4) (N := some 22) (v := .pointer (some ⟨g, 0, Option.none⟩)) #[true, true, true, true, true, false, false, false, false, false, false, false, false, false, false, false, false, false, false, false, false, false, false, false, false, false, false, false, false, false] rfl rfl (by kernel_rfl) (fun _ _ _ h => h) (Or.inl ⟨wanted_none rfl, fun w => by go_simp⟩) rfl ?_
      try simp only [Act.put, List.setIfInBounds_toArray, List.set_cons_zero, List.set_cons_succ]
      refine take_ (i := 5) (N := some 23) (v := .int .i64 client) #[true, true, true, true, true, true, false, false, false, false, false, false, false, false, false, false, false, false, false, false, false, false, false, false, false, false, false, false, false, false] rfl rfl (by kernel_rfl) (fun _ _ _ h => h) (Or.inl ⟨wanted_none rfl, by intro w' hSw; have q := hSw.cell m0 id; go_simp⟩) hS0 rfl ?_
      try simp only [Act.put, List.setIfInBounds_toArray, List.set_cons_zero, List.set_cons_succ]
      refine pure_ (i := 6) (N := some 24) (v := .agg #[.bool true, .int .i64 client]) #[true, true, true, true, true, true, true, false, false, false, false, false, false, false, false, false, false, false, false, false, false, false, false, false, false, false, false, false, false, false] rfl rfl (by kernel_rfl) (fun _ _ _ h => h) (Or.inl ⟨wanted_none rfl, fun w => by go_simp⟩) rfl ?_
      try simp only [Act.put, List.setIfInBounds_toArray, List.set_cons_zero, List.set_cons_succ]
      refine pure_ (i := 7) (N := some 25) (v := .int .i64 x) #[true, true, true, true, true, true, true, true, false, false, false, false, false, false, false, false, false, false, false, false, false, false, false, false, false, false, false, false, false, false] rfl rfl (by kernel_rfl) (fun _ _ _ h => h) (Or.inl ⟨wanted_none rfl, fun w => by rfl⟩) rfl ?_
      try simp only [Act.put, List.setIfInBounds_toArray, List.set_cons_zero, List.set_cons_succ]
      refine pure_ (i := 8) (N := some 26) (v := .agg #[.bool false, .int .i64 x]) #[true, true, true, true, true, true, true, true, true, false, false, false, false, false, false, false, false, false, false, false, false, false, false, false, false, false, false, false, false, false] rfl rfl (by kernel_rfl) (fun _ _ _ h => h) (Or.inl ⟨wanted_none rfl, fun w => by go_simp⟩) rfl ?_
      try simp only [Act.put, List.setIfInBounds_toArray, List.set_cons_zero, List.set_cons_succ]
      refine pure_ (i := 9) (N := some 27) (v := .pointer (some ⟨g, 0, Option.none⟩)) #[true, true, true, true, true, true, true, true, true, true, false, false, false, false, false, false, false, false, false, false, false, false, false, false, false, false, false, false, false, false] rfl rfl (by kernel_rfl) (fun _ _ _ h => h) (Or.inl ⟨wanted_none rfl, fun w => by rfl⟩) rfl ?_
      try simp only [Act.put, List.setIfInBounds_toArray, List.set_cons_zero, List.set_cons_succ]
      refine pure_ (i := 10) (N := some 28) (v := .pointer (some ⟨g, 0, Option.none⟩)) #[true, true, true, true, true, true, true, true, true, true, true, false, false, false, false, false, false, false, false, false, false, false, false, false, false, false, false, false, false, false] rfl rfl (by kernel_rfl) (fun _ _ _ h => h) (Or.inl ⟨wanted_none rfl, fun w => by go_simp⟩) rfl ?_
      try simp only [Act.put, List.setIfInBounds_toArray, List.set_cons_zero, List.set_cons_succ]
      refine pure_ (i := 11) (N := some 29) (v := .pointer (some ⟨g, 1, Option.none⟩)) #[true, true, true, true, true, true, true, true, true, true, true, true, false, false, false, false, false, false, false, false, false, false, false, false, false, false, false, false, false, false] rfl rfl (by kernel_rfl) (fun _ _ _ h => h) (Or.inl ⟨wanted_none rfl, fun w => by go_simp⟩) rfl ?_
      try simp only [Act.put, List.setIfInBounds_toArray, List.set_cons_zero, List.set_cons_succ]
      refine take_ (i := 12) (N := some 30) (v := .int .i64 op) #[true, true, true, true, true, true, true, true, true, true, true, true, true, false, false, false, false, false, false, false, false, false, false, false, false, false, false, false, false, false] rfl rfl (by kernel_rfl) (fun _ _ _ h => h) (Or.inl ⟨wanted_none rfl, by intro w' hSw; have q := hSw.cell m1 id; go_simp⟩) hS0 rfl ?_
      try simp only [Act.put, List.setIfInBounds_toArray, List.set_cons_zero, List.set_cons_succ]
      refine pure_ (i := 13) (N := some 31) (v := .pointer (some ⟨g, 0, Option.none⟩)) #[true, true, true, true, true, true, true, true, true, true, true, true, true, true, false, false, false, false, false, false, false, false, false, false, false, false, false, false, false, false] rfl rfl (by kernel_rfl) (fun _ _ _ h => h) (Or.inl ⟨wanted_none rfl, fun w => by rfl⟩) rfl ?_
      try simp only [Act.put, List.setIfInBounds_toArray, List.set_cons_zero, List.set_cons_succ]
      refine pure_ (i := 14) (N := some 32) (v := .pointer (some ⟨g, 0, Option.none⟩)) #[true, true, true, true, true, true, true, true, true, true, true, true, true, true, true, false, false, false, false, false, false, false, false, false, false, false, false, false, false, false] rfl rfl (by kernel_rfl) (fun _ _ _ h => h) (Or.inl ⟨wanted_none rfl, fun w => by go_simp⟩) rfl ?_
      try simp only [Act.put, List.setIfInBounds_toArray, List.set_cons_zero, List.set_cons_succ]
      refine pure_ (i := 15) (N := some 33) (v := .pointer (some ⟨g, 2, Option.none⟩)) #[true, true, true, true, true, true, true, true, true, true, true, true, true, true, true, true, false, false, false, false, false, false, false, false, false, false, false, false, false, false] rfl rfl (by kernel_rfl) (fun _ _ _ h => h) (Or.inl ⟨wanted_none rfl, fun w => by go_simp⟩) rfl ?_
      try simp only [Act.put, List.setIfInBounds_toArray, List.set_cons_zero, List.set_cons_succ]
      refine take_ (i := 16) (N := some 34) (v := .int .i64 round) #[true, true, true, true, true, true, true, true, true, true, true, true, true, true, true, true, true, false, false, false, false, false, false, false, false, false, false, false, false, false] rfl rfl (by kernel_rfl) (fun _ _ _ h => h) (Or.inl ⟨wanted_none rfl, by intro w' hSw; have q := hSw.cell m2 id; go_simp⟩) hS0 rfl ?_
      try simp only [Act.put, List.setIfInBounds_toArray, List.set_cons_zero, List.set_cons_succ]
      refine pure_ (i := 17) (N := some 35) (v := .pointer (some ⟨g, 0, Option.none⟩)) #[true, true, true, true, true, true, true, true, true, true, true, true, true, true, true, true, true, true, false, false, false, false, false, false, false, false, false, false, false, false] rfl rfl (by kernel_rfl) (fun _ _ _ h => h) (Or.inl ⟨wanted_none rfl, fun w => by rfl⟩) rfl ?_
      try simp only [Act.put, List.setIfInBounds_toArray, List.set_cons_zero, List.set_cons_succ]
      refine pure_ (i := 18) (N := some 36) (v := .pointer (some ⟨g, 0, Option.none⟩)) #[true, true, true, true, true, true, true, true, true, true, true, true, true, true, true, true, true, true, true, false, false, false, false, false, false, false, false, false, false, false] rfl rfl (by kernel_rfl) (fun _ _ _ h => h) (Or.inl ⟨wanted_none rfl, fun w => by go_simp⟩) rfl ?_
      try simp only [Act.put, List.setIfInBounds_toArray, List.set_cons_zero, List.set_cons_succ]
      refine pure_ (i := 19) (N := some 37) (v := .pointer (some ⟨g, 4, Option.none⟩)) #[true, true, true, true, true, true, true, true, true, true, true, true, true, true, true, true, true, true, true, true, false, false, false, false, false, false, false, false, false, false] rfl rfl (by kernel_rfl) (fun _ _ _ h => h) (Or.inl ⟨wanted_none rfl, fun w => by go_simp⟩) rfl ?_
      try simp only [Act.put, List.setIfInBounds_toArray, List.set_cons_zero, List.set_cons_succ]
      refine take_ (i := 20) (N := some 38) (v := .agg #[.int .i64 k0, .int .i64 k1, .int .i64 k2, .int .i64 k3]) #[true, true, true, true, true, true, true, true, true, true, true, true, true, true, true, true, true, true, true, true, true, false, false, false, false, false, false, false, false, false] rfl rfl (by kernel_rfl) (fun _ _ _ h => h) (Or.inl ⟨wanted_none rfl, by intro w' hSw; have q4 := hSw.cell m4 id; have q5 := hSw.cell m5 id; have q6 := hSw.cell m6 id; have q7 := hSw.cell m7 id; go_simp⟩) hS0 rfl ?_
      try simp only [Act.put, List.setIfInBounds_toArray, List.set_cons_zero, List.set_cons_succ]
      refine pure_ (i := 21) (N := some 39) (v := .pointer (some ⟨w.heap.size, 0, Option.none⟩)) #[true, true, true, true, true, true, true, true, true, true, true, true, true, true, true, true, true, true, true, true, true, true, false, false, false, false, false, false, false, false] rfl rfl (by kernel_rfl) (fun _ _ _ h => h) (Or.inl ⟨wanted_none rfl, fun w => by go_simp⟩) rfl ?_
      try simp only [Act.put, List.setIfInBounds_toArray, List.set_cons_zero, List.set_cons_succ]
      refine take_ (i := 22) (N := some 40) (v := .agg #[.int .i64 s1, .int .i64 s2]) #[true, true, true, true, true, true, true, true, true, true, true, true, true, true, true, true, true, true, true, true, true, true, true, false, false, false, false, false, false, false] rfl rfl (by kernel_rfl) (fun _ _ _ h => h) (Or.inl ⟨wanted_none rfl, by intro w' hSw; have q0 := hSw.cell x0 id; have q1 := hSw.cell x1 id; go_simp⟩) hS0 rfl ?_
      try simp only [Act.put, List.setIfInBounds_toArray, List.set_cons_zero, List.set_cons_succ]
      refine pure_ (i := 23) (N := some 41) (v := .pointer (some ⟨w.heap.size, 2, Option.none⟩)) #[true, true, true, true, true, true, true, true, true, true, true, true, true, true, true, true, true, true, true, true, true, true, true, true, false, false, false, false, false, false] rfl rfl (by kernel_rfl) (fun _ _ _ h => h) (Or.inl ⟨wanted_none rfl, fun w => by go_simp⟩) rfl ?_
      try simp only [Act.put, List.setIfInBounds_toArray, List.set_cons_zero, List.set_cons_succ]
      refine take_ (i := 24) (N := some 42) (v := .slice B zs.length cap') #[true, true, true, true, true, true, true, true, true, true, true, true, true, true, true, true, true, true, true, true, true, true, true, true, true, false, false, false, false, false] rfl rfl (by kernel_rfl) (fun _ _ _ h => h) (Or.inl ⟨wanted_none rfl, by intro w' hSw; have q2 := hSw.cell x2 id; go_simp⟩) hS0 rfl ?_
      try simp only [Act.put, List.setIfInBounds_toArray, List.set_cons_zero, List.set_cons_succ]
      refine one_ (i := 25) (oi := ({ dst := some 43, op := Op.call { callee := Callee.value (Operand.func 36), args := #[Operand.tmp 42], argTypes := #[24] }, type := 24, pos := "register.go:87", after := #[{ on := 24, ground := Ground.data }], guard := Option.none } : Oper)) (N := some 43) #[true, true, true, true, true, true, true, true, true, true, true, true, true, true, true, true, true, true, true, true, true, true, true, true, true, true, false, false, false, false] rfl rfl (by kernel_rfl) (by decide) ?_
      intro KK hKK
      refine goes_ Try.func36 (by kernel_rfl) rfl #[.slice B zs.length cap'] (wanted_none rfl) rfl rfl (by simp [Act.eval]) ?_
      refine (clone_any B zs.length cap' zs _ ((hZ.grew hK).grew hS0) rfl hz).mono ?_
      rintro e w2 ⟨vw, rfl, hrow, hk2⟩
      obtain ⟨Au, cu, rfl⟩ := hrow.slice
      refine ⟨_, rfl, hKK.out _ _ (hS0.trans hk2) (fun hS1 => ?_)⟩
      try simp only [Act.put, List.setIfInBounds_toArray, List.set_cons_zero, List.set_cons_succ]
      refine pure_ (i := 26) (N := some 44) (v := .agg #[.int .i64 kind, .bool true, .int .i64 client, .bool false, .int .i64 x, .int .i64 op, .int .i64 round, .int .i64 k0, .int .i64 k1, .int .i64 k2, .int .i64 k3, .int .i64 s1, .int .i64 s2, .int .i64 0, .int .i64 0, .slice Au zs.length cu, .int .i64 0, .int .i64 0, .int .i64 0, .string ⟨#[]⟩, .int .i64 0, .int .i64 0, .int .i64 0, .int .i64 0, .int .i64 0, .int .i64 0, .slice Option.none 0 0, .slice Option.none 0 0, .slice Option.none 0 0, .bool false]) #[true, true, true, true, true, true, true, true, true, true, true, true, true, true, true, true, true, true, true, true, true, true, true, true, true, true, true, false, false, false] rfl rfl (by kernel_rfl) (fun _ _ _ h => h) (Or.inl ⟨wanted_none rfl, fun w => by go_simp⟩) rfl ?_
      try simp only [Act.put, List.setIfInBounds_toArray, List.set_cons_zero, List.set_cons_succ]
      have hbs := Blk.new w2 66 [.int .i64 kind, .bool true, .int .i64 client, .bool false, .int .i64 x, .int .i64 op, .int .i64 round, .int .i64 k0, .int .i64 k1, .int .i64 k2, .int .i64 k3, .int .i64 s1, .int .i64 s2, .int .i64 0, .int .i64 0, .slice Au zs.length cu, .int .i64 0, .int .i64 0, .int .i64 0, .string ⟨#[]⟩, .int .i64 0, .int .i64 0, .int .i64 0, .int .i64 0, .int .i64 0, .int .i64 0, .slice Option.none 0 0, .slice Option.none 0 0, .slice Option.none 0 0, .bool false]
      have ks : Keeps None wr (w2.alloc (.cells #[.int .i64 kind, .bool true, .int .i64 client, .bool false, .int .i64 x, .int .i64 op, .int .i64 round, .int .i64 k0, .int .i64 k1, .int .i64 k2, .int .i64 k3, .int .i64 s1, .int .i64 s2, .int .i64 0, .int .i64 0, .slice Au zs.length cu, .int .i64 0, .int .i64 0, .int .i64 0, .string ⟨#[]⟩, .int .i64 0, .int .i64 0, .int .i64 0, .int .i64 0, .int .i64 0, .int .i64 0, .slice Option.none 0 0, .slice Option.none 0 0, .slice Option.none 0 0, .bool false] 66)) := hS1.alloc _
      refine one_ (i := 27) (oi := ({ dst := some 45, op := Op.buildSlice 55 1 #[(0, Operand.tmp 44)], type := 55, pos := "register.go:87", after := #[{ on := 26, ground := Ground.data }], guard := Option.none } : Oper)) (N := some 45) #[true, true, true, true, true, true, true, true, true, true, true, true, true, true, true, true, true, true, true, true, true, true, true, true, true, true, true, true, false, false] rfl rfl (by kernel_rfl) (by decide) ?_
      intro KK hKK
      refine value_ (wanted_none rfl) rfl (w1 := w2.alloc (.cells #[.int .i64 kind, .bool true, .int .i64 client, .bool false, .int .i64 x, .int .i64 op, .int .i64 round, .int .i64 k0, .int .i64 k1, .int .i64 k2, .int .i64 k3, .int .i64 s1, .int .i64 s2, .int .i64 0, .int .i64 0, .slice Au zs.length cu, .int .i64 0, .int .i64 0, .int .i64 0, .string ⟨#[]⟩, .int .i64 0, .int .i64 0, .int .i64 0, .int .i64 0, .int .i64 0, .int .i64 0, .slice Option.none 0 0, .slice Option.none 0 0, .slice Option.none 0 0, .bool false] 66)) (v := .slice (some ⟨w2.heap.size, 0, Option.none⟩) 1 1) (by go_simp) (hKK.out _ _ ks (fun hS2 => ?_))
      try simp only [Act.put, List.setIfInBounds_toArray, List.set_cons_zero, List.set_cons_succ]
      refine last_ (i := 28) (oi := ({ dst := some 46, op := Op.call { callee := Callee.builtin Builtin.append, args := #[Operand.tmp 18, Operand.tmp 45], argTypes := #[55, 55] }, type := 55, pos := "register.go:87", after := #[{ on := 0, ground := Ground.data }, { on := 27, ground := Ground.data }, { on := 25, ground := Ground.chain }], guard := Option.none } : Oper)) (N := some 46) #[true, true, true, true, true, true, true, true, true, true, true, true, true, true, true, true, true, true, true, true, true, true, true, true, true, true, true, true, true, false] rfl rfl (by kernel_rfl) (by decide) ?_
      intro KK hKK
      refine step_append_row _ (wanted_none rfl) rfl (.tmp 18) (.tmp 45) 55 rfl (w.heap.size + 1) 66 iM _ 30 312 Try.underlying55 hiM hzM0 hzM1 hzM2 rfl (by decide) (.slice Am ms.length cm) ms.length _ rfl (owns_grew hM ks) (some ⟨w2.heap.size, 0, Option.none⟩) 1 1 [.int .i64 kind, .bool true, .int .i64 client, .bool false, .int .i64 x, .int .i64 op, .int .i64 round, .int .i64 k0, .int .i64 k1, .int .i64 k2, .int .i64 k3, .int .i64 s1, .int .i64 s2, .int .i64 0, .int .i64 0, .slice Au zs.length cu, .int .i64 0, .int .i64 0, .int .i64 0, .string ⟨#[]⟩, .int .i64 0, .int .i64 0, .int .i64 0, .int .i64 0, .int .i64 0, .int .i64 0, .slice Option.none 0 0, .slice Option.none 0 0, .slice Option.none 0 0, .bool false] rfl rfl (fun e => by cases e) (src_cells hbs) (by intro u hu; simp at hu; rcases hu with rfl | rfl | rfl | rfl | rfl | rfl | rfl | rfl | rfl | rfl | rfl | rfl | rfl | rfl | rfl | rfl | rfl | rfl | rfl | rfl | rfl | rfl | rfl | rfl | rfl | rfl | rfl | rfl | rfl | rfl <;> rfl) (by unfold maxLen; omega) (by omega) (by have := ks.size; have := hKX.size; rw [World.size_alloc] at this; omega) ?_
      intro u' w5 hown5 hk5 hloc5
      obtain ⟨A5, c5, rfl⟩ := owns_slice hown5
      refine hKK.out _ _ ?_
      try simp only [Act.put, List.setIfInBounds_toArray, List.set_cons_zero, List.set_cons_succ]
      refine pure_ (i := 29) (N := some 9) (v := .slice A5 (ms.length + 1) c5) #[true, true, true, true, true, true, true, true, true, true, true, true, true, true, true, true, true, true, true, true, true, true, true, true, true, true, true, true, true, true] rfl rfl (by kernel_rfl) (fun _ _ _ h => h) (Or.inl ⟨wanted_none rfl, fun w => by rfl⟩) rfl ?_
      try simp only [Act.put, List.setIfInBounds_toArray, List.set_cons_zero, List.set_cons_succ]
      refine done_ (by kernel_rfl) ?_
      have hS2 := hS1
      have HM5 := Lib.hid (HMR.out.more x hrow (by simp) (by have := hKX.size; rw [World.size_alloc] at this; omega) (hS0.trans hk2) ((Keeps.refl None w2).alloc _) hown5 hk5 hloc5)
      have hK5 : Keeps None (w.alloc (.cells #[.int .i64 s1, .int .i64 s2, .slice B zs.length cap'] 26)) w5 := (hKX.trans ks).andThen hk5 (fun i hi e => by have := (World.ownsRow.lt hM i e).1; rw [World.size_alloc] at hi; omega)
      go_wp2_with fail
      go_roundw
      case rel => exact ⟨k + 1, ms ++ [(x, Value.slice Au zs.length cu)], by omega, by go_num, by simp [HML.out], by have := HM5.out; rwa [← take_succ_of hs.out] at this, hK5⟩
      case measure => simp [intOf]; omega
    · obtain rfl : k = l.length := by omega
      go_wp2_with fail
      go_ret
      have hMR := HMR.out
      rw [List.take_of_length_le (Nat.le_refl _)] at hMR
      exact ⟨_, ms, rfl, hMR.down (Nat.le_succ _), hK⟩
end Go.Proofs.Ytcihfjfbcfgidaa
