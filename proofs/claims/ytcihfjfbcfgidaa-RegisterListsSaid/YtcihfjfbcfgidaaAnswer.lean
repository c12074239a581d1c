/- (asking).answer: a message that fits, while values are asked for. -/
import Derived.Test.YtcihfjfbcfgidaaAnsPlain
import Derived.Deep.DeepCutAuto
import Derived.Deep.CutBlock
namespace Go.Proofs.Ytcihfjfbcfgidaa
open Go.RowKit Go.Maps Go.Proofs.Ytcihfjfbcfgidaa.TG Go.Proofs.Ytcihfjfbcfgidaa.TB Go.Proofs.YtcihfjfbcfgidaaW.PrintLast

attribute [local go_sem] Oper.semAt_some

theorem Nums.off_map {k : IntKind} {w w' : World} {A : Option Addr} {zs : List Int} {bm : Nat} {es : Array MapEntry} {c : Nat} (h : Nums k w A zs) (hm : w.heap[bm]? = some (.map es c)) (hk : Keeps (One bm) w w') : Nums k w' A zs := by
  intro j hj
  obtain ⟨b, o, h1, h2⟩ := h j hj
  refine ⟨b, o, h1, hk.cell h2 ?_⟩
  intro e
  simp only [One] at e
  subst e
  simp [World.cell?, hm] at h2

/-- An answer more: what stands behind Take. -/
structure Asked (w w' : World) (base g tg bm : Nat) (X : Nat → Prop) (h : Hd) (round : Int) (v bl vg : Value) (rs : List Rec) : Prop where
  B : Blk w' g 109 (mcells h.client h.op round h.need h.k0 h.k1 h.k2 h.k3 v h.wr bl h.size (askV tg))
  R : Row .i64 3 w' base v h.grp
  v : In X v
  U : Row .u8 5 w' base bl h.blk
  bl : In X bl
  recs : ∀ r ∈ rs, Row .u8 5 w' base r.dv r.ds ∧ In (fun b => X b ∨ (w.heap.size ≤ b ∧ b < w'.heap.size)) r.dv ∧ r.ds.length ≤ MB
  T : TB.Tal w' tg base vg h.grp h.need bm (rs.map Rec.pair)
theorem asked_parts {w w' : World} {base g tg bm : Nat} {X : Nat → Prop} {h : Hd} {round : Int} {v bl vg : Value} {rs rs' : List Rec} (hg : ¬ X g ∧ base ≤ g)
    (hB : Blk w g 109 (mcells h.client h.op round h.need h.k0 h.k1 h.k2 h.k3 v h.wr bl h.size (askV tg))) (hR : Row .i64 3 w base v h.grp) (hv : In X v) (hU : Row .u8 5 w base bl h.blk) (hbl : In X bl)
    (hxb : X bm) (hgl : g < w.heap.size)
    (hrs : ∀ r ∈ rs, Row .u8 5 w base r.dv r.ds ∧ In X r.dv ∧ r.ds.length ≤ MB) (hmap : ∃ es c, w.heap[bm]? = some (.map es c))
    (hk : Keeps (One bm) w w') (hT : TB.Tal w' tg base vg h.grp h.need bm (rs'.map Rec.pair)) (hnew : ∀ r ∈ rs', r ∈ rs ∨ (Row .u8 5 w' w.heap.size r.dv r.ds ∧ r.ds.length ≤ MB)) : Asked w w' base g tg bm X h round v bl vg rs' := by
  obtain ⟨es, c, hes⟩ := hmap
  have hgb : g ≠ bm := fun e => hg.1 (e ▸ hxb)
  have hoff : ∀ {k : IntKind} {t : TypeId} {u : Value} {zs : List Int}, Row k t w base u zs → Row k t w' base u zs := fun hu => hu.keeps hk (fun b e f => by
    simp only [One] at f
    subst f
    obtain ⟨cur, hc⟩ := owns_obj hu.raw e
    rw [hes] at hc
    cases hc)
  refine ⟨hB.keeps hk (fun e => hgb (by simpa [One] using e)), hoff hR, hv, hoff hU, hbl, fun r hr' => ?_, hT⟩
  rcases hnew r hr' with h1 | ⟨h1, h2⟩
  · obtain ⟨a1, a2, a3⟩ := hrs r h1
    exact ⟨hoff a1, a2.mono (fun _ => .inl), a3⟩
  · exact ⟨h1.down (by omega), fun b e => .inr (h1.lt b e), h2⟩
theorem Asked.mach {w w' : World} {base g tg bm : Nat} {X : Nat → Prop} {h : Hd} {round : Int} {v bl vg : Value} {rs : List Rec} (p : Asked w w' base g tg bm X h round v bl vg rs) (hg : ¬ X g ∧ base ≤ g) (hgl : g < w.heap.size) (hX : ∀ b, X b → base ≤ b ∧ b < w.heap.size) (ok : HdOk h)
    (hxt : X tg) (hxb : X bm) (hvg : In X vg) (hr : 1 ≤ round ∧ round ≤ 1099511627776) (hs : w.heap.size ≤ w'.heap.size) (hlen : (rs.length : Int) ≤ h.need) :
    Mach w' base (fun b => X b ∨ (w.heap.size ≤ b ∧ b < w'.heap.size)) g h round (.asking (rs.map Rec.ans)) := by
  refine ⟨⟨v, bl, askV tg, p.B, p.R, p.v.mono (fun _ => .inl), p.U, p.bl.mono (fun _ => .inl),
    ⟨tg, vg, bm, rs, rfl, rfl, p.T, p.recs, .inl hxt, .inl hxb, hvg.mono (fun _ => .inl), hr.1, hr.2, hlen⟩⟩, ⟨?_, hg.2⟩, ?_, ok⟩
  · rintro (e | e)
    · exact hg.1 e
    · omega
  · rintro b (e | e)
    · have := hX b e; omega
    · omega

/-- The same, but that nothing panics. -/
def NoPan (Q : Exit → Act → World → Prop) : Exit → Act → World → Prop
  | .panic _, _, _ => False
  | e, a, w => Q e a w
theorem NoPan.le {Q : Exit → Act → World → Prop} {e : Exit} {a : Act} {w : World} (h : NoPan Q e a w) : Q e a w := by
  cases e <;> first | exact h | exact False.elim h
theorem wpListIn_append_row {F : Fence} {nF : Nat} {P : Program} (w : World) {ops : Array Oper} {rest : List Oper} {o : Oper} {a : Act} {Q : Exit → Act → World → Prop}
    (hg : o.guard = Option.none) (s x : Operand) (t : TypeId) (hop : o.op = Op.call { callee := Callee.builtin Builtin.append, args := #[s, x], argTypes := #[t, t] })
    (base : Nat) (e : TypeId) (i : TypeInfo) (z : Value) (size bytes : Nat) (ht : P.underlying t = some (.slice e)) (hi : P.info? e = some i) (hz : i.zero = some z)
    (hsize : i.size = size) (hby : i.bytes = bytes) (hzs : z.cells.size = size) (hsz : 0 < size)
    (v : Value) (n : Nat) (xs : List Value) (hs : a.eval s = v) (hown : w.ownsRow base e size v n xs)
    (A : Option Addr) (m c : Nat) (news : List Value) (hx : a.eval x = .slice A m c) (hl : news.length = m * size) (hnil : A = Option.none → c = 0)
    (hsrc : 0 < news.length → ∃ ad, A = some ad ∧ ∀ j u, news[j]? = some u → w.cell? (ad.add j) = some u) (h1 : ∀ u ∈ news, u.oneCell' = true)
    (h63 : n + m ≤ maxLen) (hbytes : (n + m) * bytes ≤ 140737488355328) (hbase : base ≤ w.heap.size)
    (h : ∀ v' w', w'.ownsRow base e size v' (n + m) (xs ++ news) → Keeps (OwnB v) w w' → (v'.ownBlock = v.ownBlock ∨ v'.ownBlock = some w.heap.size) → wpListIn F nF P ops Q rest (a.put o.dst v') w') :
    wpListIn F nF P ops Q (o :: rest) a w := by
  refine wpListIn_plain hg fun K hK' => ?_
  obtain ⟨v', w', hr, h2, h3, h4⟩ := run_append_row (P := P) w base t o.type e i z size bytes ht hi hz hsize hby hzs hsz v n xs hown A m c news hl hnil hsrc h1 h63 hbytes hbase
  unfold Oper.wpIn
  refine ⟨?_, ?_⟩
  · simp [Oper.about, hop, resolve, Target.leads, Sem.run_pure]
  · rw [Oper.semAt_plain F _ _ (by rw [hop]; intro c hc'; cases hc')]
    simp [execOp, hop, resolve, invoke, builtin, hs, hx, hr, Result.andThen]
    exact hK' _ _ (h v' w' h2 h3 h4)

/-- A call that ends at the machine's end. -/
theorem fin_ended {w wq : World} {base g : Nat} {X : Nat → Prop} {h : Hd} {round : Int} {v bl : Value} {err : Int} {tag : Int × Int} {A : Option Addr} {n c : Nat} {ds : List Int} (hg : ¬ X g ∧ base ≤ g) (hgl : g < w.heap.size) (hX : ∀ b, X b → base ≤ b ∧ b < w.heap.size) (ok : HdOk h)
    (hB : Blk wq g 109 (mcells h.client h.op round h.need h.k0 h.k1 h.k2 h.k3 v h.wr bl h.size (endV err tag (.slice A n c)))) (hR : Row .i64 3 wq base v h.grp) (hv : In X v) (hU : Row .u8 5 wq base bl h.blk) (hbl : In X bl)
    (hD : Row .u8 5 wq base (.slice A n c) ds) (hIn : In (fun b => X b ∨ (w.heap.size ≤ b ∧ b < wq.heap.size)) (.slice A n c)) (hl : ds.length ≤ MB) (hk : Keeps (fun k => X k ∨ k = g) w wq) :
    StepEnd w base X g h round (.ended err tag ds) .no (.returned (.slice Option.none 0 0)) wq := by
  have hs := hk.size
  refine ⟨fun b => X b ∨ (w.heap.size ≤ b ∧ b < wq.heap.size), wq.heap.size, _, rfl, ⟨⟨v, bl, _, hB, hR, hv.mono (fun _ => .inl), hU, hbl.mono (fun _ => .inl), ⟨_, rfl, hD, hIn, hl⟩⟩, ⟨?_, hg.2⟩, ?_, ok⟩, rfl, fun _ => .inl, ?_, ?_, hs, hk⟩
  · rintro (e | e)
    · exact hg.1 e
    · omega
  · rintro b (e | e)
    · have := hX b e; omega
    · omega
  · rintro b (e | e)
    · exact .inl e
    · exact .inr e.1
  · rintro b (e | e)
    · have := hX b e; omega
    · exact e.2
theorem fin_put {w wq : World} {base g B0 : Nat} {X : Nat → Prop} {h : Hd} {round : Int} {v bl : Value} {err : Int} {tag : Int × Int} {A : Option Addr} {n c : Nat} {ds : List Int} (hg : ¬ X g ∧ base ≤ g) (hgl : g < w.heap.size) (hX : ∀ b, X b → base ≤ b ∧ b < w.heap.size) (ok : HdOk h)
    (hB : Blk wq g 109 (mcells h.client h.op round h.need h.k0 h.k1 h.k2 h.k3 v h.wr bl h.size (endV err tag (.slice A n c)))) (hR : Row .i64 3 wq base v h.grp) (hv : In X v) (hU : Row .u8 5 wq base bl h.blk) (hbl : In X bl)
    (hD : Row .u8 5 wq base (.slice A n c) ds) (hIn : In (fun b => (X b ∨ (w.heap.size ≤ b ∧ b < wq.heap.size)) ∧ b ≠ B0) (.slice A n c)) (hl : ds.length ≤ MB) (hk : Keeps (fun k => X k ∨ k = g) w wq) (hB0 : w.heap.size ≤ B0) :
    StepEnd w base X g h round (.ended err tag ds) .no (.returned (.slice Option.none 0 0)) (wq.putObj B0 (.deferred Option.none)) := by
  have kp : Keeps (One B0) wq (wq.putObj B0 (.deferred Option.none)) := keeps_putObj _ _ _
  have hXB : ∀ b, X b → b ≠ B0 := fun b hb e => by have := hX b hb; omega
  refine fin_ended hg hgl hX ok (hB.keeps kp (fun e => by simp only [One] at e; omega)) (hR.keeps kp (fun b e f => hXB b (hv b e) f)) hv (hU.keeps kp (fun b e f => hXB b (hbl b e) f)) hbl (hD.keeps kp (fun b e f => (hIn b e).2 f)) ?_ hl (hk.andThen kp (fun i hi e => by simp only [One] at e; omega))
  intro b e
  have hs : (wq.putObj B0 (.deferred Option.none)).heap.size = wq.heap.size := by simp [World.putObj]
  rw [hs]
  exact (hIn b e).1
/-- What the first of a tag holds. -/
theorem pick_data : ∀ (bs : List TB.BV) (rs : List Rec) (g1 g2 : Int), bs.map TB.BV.val = rs.map (fun r => blkV r.st r.dv) →
    (pickV bs g1 g2 = .slice Option.none 0 0 ∧ dataA (rs.map Rec.ans) (g1, g2) = []) ∨ (∃ r ∈ rs, ∃ A n c, r.dv = .slice A n c ∧ pickV bs g1 g2 = .slice A n c ∧ dataA (rs.map Rec.ans) (g1, g2) = r.ds)
  | [], [], g1, g2, _ => .inl ⟨rfl, rfl⟩
  | [], _ :: _, _, _, h => by cases h
  | _ :: _, [], _, _, h => by cases h
  | b :: bs, r :: rs, g1, g2, h => by
    simp only [List.map_cons, List.cons.injEq] at h
    have h1 := h.1
    simp [TB.BV.val, blkV] at h1
    obtain ⟨h1, h2, h3⟩ := h1
    by_cases hm : b.n = g1 ∧ b.c = g2
    · refine .inr ⟨r, by simp, b.A, b.m, b.cap, h3.symm, ?_, ?_⟩
      · unfold pickV; simp [hm]
      · unfold dataA
        have : (r.ans).st = (g1, g2) := by
          show r.st = (g1, g2)
          ext
          · rw [← h1]; exact hm.1
          · rw [← h2]; exact hm.2
        rw [List.map_cons, List.find?_cons_of_pos (by simp [this])]
        rfl
    · have e1 : pickV (b :: bs) g1 g2 = pickV bs g1 g2 := by unfold pickV; rw [List.find?_cons_of_neg (by simpa using hm)]
      have e2 : dataA ((r :: rs).map Rec.ans) (g1, g2) = dataA (rs.map Rec.ans) (g1, g2) := by
        unfold dataA
        rw [List.map_cons, List.find?_cons_of_neg]
        simp only [decide_eq_true_eq]
        intro e
        have e' : r.st = (g1, g2) := e
        exact hm ⟨by rw [h1, e'], by rw [h2, e']⟩
      rw [e1, e2]
      rcases pick_data bs rs g1 g2 h.2 with h4 | ⟨r', hr', h4⟩
      · exact .inl h4
      · exact .inr ⟨r', by simp [hr'], h4⟩
/-- A row of stamps, stamp by stamp. -/
theorem St.of_row {w : World} {base n : Nat} {A : Option Addr} {c : Nat} {l : List (Int × Int)} (h : w.ownsRow base 23 2 (.slice A n c) l.length (stCells l)) : St w A l := by
  intro j x hx
  have hj : j < l.length := (List.getElem?_eq_some_iff.1 hx).1
  obtain ⟨h0, h1⟩ := stCells_at l j x hx
  rcases h.2 with ⟨e, h0'⟩ | ⟨g, cap, cur, e, hb, hg, hn, hc, hs, ht⟩
  · omega
  · cases e
    have key : ∀ i, i < l.length * 2 → w.cell? ⟨g, i, Option.none⟩ = (stCells l)[i]? := by
      intro i hi
      rw [cell_of_row w g _ cur 23 (0, 0) hg]
      have e1 : (cur.toList.take (l.length * 2))[i]? = (stCells l)[i]? := by rw [ht]
      rw [List.getElem?_take, if_pos hi, Array.getElem?_toList] at e1
      exact e1
    refine ⟨g, 0, rfl, ?_, ?_⟩
    · rw [Nat.zero_add, key _ (by omega)]; exact h0
    · rw [Nat.zero_add, key _ (by omega)]; exact h1
/-- What stands while the stamps are gathered. -/
structure SI (w1 : World) (bl : Nat) (pre : List (Int × TB.BV)) (W : World) : Prop where
  ex : ∃ u, Blk W bl 174 [u] ∧ W.ownsRow (w1.heap.size + 2) 23 2 u pre.length (stCells (pre.map fun x => (x.2.n, x.2.c)))
  keeps : Keeps (fun b => b = bl ∨ w1.heap.size + 2 ≤ b) w1 W
theorem infoSt : (Try.prog.info? 23).map (fun i => (i.zero, i.size, i.bytes)) = some (some (.agg #[.int .i64 0, .int .i64 0]), 2, 16) := by kernel_rfl
theorem stamps_of : ∀ (bs : List TB.BV) (rs : List Rec), bs.map TB.BV.val = rs.map (fun r => blkV r.st r.dv) → bs.map (fun y => (y.n, y.c)) = rs.map (fun r => r.st)
  | [], [], _ => rfl
  | [], _ :: _, h => by cases h
  | _ :: _, [], h => by cases h
  | b :: bs, r :: rs, h => by
    simp only [List.map_cons, List.cons.injEq] at h ⊢
    refine ⟨?_, stamps_of bs rs h.2⟩
    have h1 := h.1
    simp [TB.BV.val, blkV] at h1
    ext
    · exact h1.1
    · exact h1.2.1
/-- What has come behind an answer. -/
def recMore (grp : List Int) (need : Int) (rs : List Rec) (r : Rec) : List Rec := if takesA grp need (rs.map Rec.ans) r.s then rs ++ [r] else rs
theorem recMore_pair (grp : List Int) (need : Int) (rs : List Rec) (r : Rec) : (recMore grp need rs r).map Rec.pair = tookF grp need (rs.map Rec.pair) r.s (blkV r.st r.dv) := by
  unfold recMore tookF
  rw [takes_eq]
  split <;> simp [Rec.pair]
theorem tookB_eq (grp : List Int) (need : Int) (rs : List Rec) (s : Int) : TookB grp need (rs.map Rec.pair) s = (takesA grp need (rs.map Rec.ans) s && decide (need ≤ (rs.length : Int) + 1)) := by
  unfold TookB
  rw [takes_eq, List.length_map]
theorem ask_false (h : Hd) (round : Int) (rs : List Rec) (r : Rec) (hT : TookB h.grp h.need (rs.map Rec.pair) r.s = false) : askF h round (rs.map Rec.ans) 11 r.s r.st r.ds = (round, .asking ((recMore h.grp h.need rs r).map Rec.ans), .no) := by
  rw [tookB_eq] at hT
  unfold askF recMore
  cases ht : takesA h.grp h.need (rs.map Rec.ans) r.s
  · simp
  · rw [ht] at hT
    have h1 : ¬ h.need ≤ (rs.length : Int) + 1 := by simpa using hT
    simp [h1, Rec.ans]
theorem ask_true (h : Hd) (round : Int) (rs : List Rec) (r : Rec) (hT : TookB h.grp h.need (rs.map Rec.pair) r.s = true) : askF h round (rs.map Rec.ans) 11 r.s r.st r.ds = secondF h round (ansA h.grp ((rs ++ [r]).map Rec.ans)) ∧ recMore h.grp h.need rs r = rs ++ [r] := by
  rw [tookB_eq] at hT
  simp only [Bool.and_eq_true, decide_eq_true_eq] at hT
  unfold askF recMore
  simp [hT.1, hT.2, Rec.ans]
theorem recMore_mem {grp : List Int} {need : Int} {rs : List Rec} {r x : Rec} (h : x ∈ recMore grp need rs r) : x ∈ rs ∨ x = r := by
  unfold recMore at h
  split at h
  · simpa using h
  · exact .inl h
theorem recMore_len {grp : List Int} {need : Int} {rs : List Rec} {r : Rec} (h : (rs.length : Int) ≤ need) : ((recMore grp need rs r).length : Int) ≤ need := by
  unfold recMore
  split
  · next ht =>
    unfold takesA at ht
    simp only [Bool.and_eq_true, Bool.not_eq_true', decide_eq_false_iff_not, List.length_map] at ht
    rw [List.length_append]
    simp
    omega
  · exact h

set_option maxRecDepth 100000 in
set_option maxHeartbeats 8000000 in
theorem answer1_any (g base : Nat) (X : Nat → Prop) (h : Hd) (round : Int) (v bl : Value) (tg : Nat) (vg : Value) (bm : Nat) (rs : List Rec) (kind : Int) (fc : Bool) (fi : Int) (tc : Bool) (ti op rd q0 q1 q2 q3 s1 s2 h1 h2 : Int) (A : Option Addr) (cap : Nat) (zs : List Int) (c0 c1 c2 : Int) (nm : ByteArray) (c3 c4 c5 c6 c7 up : Int) (E : Option Addr) (en ec : Nat) (L : Option Addr) (ln lc : Nat) (D : Option Addr) (dn dc : Nat) (more : Bool) (w : World)
    (hg : ¬ X g ∧ base ≤ g) (hX : ∀ b, X b → base ≤ b ∧ b < w.heap.size) (ok : HdOk h)
    (hB : Blk w g 109 (mcells h.client h.op round h.need h.k0 h.k1 h.k2 h.k3 v h.wr bl h.size (askV tg))) (hR : Row .i64 3 w base v h.grp) (hv : In X v) (hU : Row .u8 5 w base bl h.blk) (hbl : In X bl)
    (hT : TB.Tal w tg base vg h.grp h.need bm (rs.map Rec.pair)) (hrs : ∀ r ∈ rs, Row .u8 5 w base r.dv r.ds ∧ In X r.dv ∧ r.ds.length ≤ MB) (hxt : X tg) (hxb : X bm) (hvg : In X vg) (hr : 1 ≤ round ∧ round ≤ 1099511627776) (hlen : (rs.length : Int) ≤ h.need)
    (hZ : Nums .u8 w A zs) (hz : zs.length ≤ 140737488351232) (hfi : (Lit.int .i64 fi).wf = true) :
    Calls Try.prog 97 #[.agg #[.pointer (some ⟨tg, 0, Option.none⟩)], .pointer (some ⟨g, 0, Option.none⟩), .agg #[.int .i64 kind, .bool fc, .int .i64 fi, .bool tc, .int .i64 ti, .int .i64 op, .int .i64 rd, .int .i64 q0, .int .i64 q1, .int .i64 q2, .int .i64 q3, .int .i64 s1, .int .i64 s2, .int .i64 h1, .int .i64 h2, .slice A zs.length cap, .int .i64 c0, .int .i64 c1, .int .i64 c2, .string nm, .int .i64 c3, .int .i64 c4, .int .i64 c5, .int .i64 c6, .int .i64 c7, .int .i64 up, .slice E en ec, .slice L ln lc, .slice D dn dc, .bool more]] w
      (StepEnd w base X g h (askF h round (rs.map Rec.ans) kind fi (s1, s2) zs).1 (askF h round (rs.map Rec.ans) kind fi (s1, s2) zs).2.1 (askF h round (rs.map Rec.ans) kind fi (s1, s2) zs).2.2) := by
  obtain ⟨iS, hiS, hzS0, hzS1, hzS2⟩ := info_parts infoSt
  have hgl := hB.lt
  have htl := hT.lt
  have hmap : ∃ es c, w.heap[bm]? = some (.map es c) := by obtain ⟨D, ⟨es, clock, e, _⟩, _⟩ := hT.map; exact ⟨es, clock, e⟩
  obtain ⟨W, hW⟩ : ∃ W, W = (w.alloc (.cells #[.pointer (some ⟨tg, 0, Option.none⟩)] 162)).alloc (.cells #[.int .i64 kind, .bool fc, .int .i64 fi, .bool tc, .int .i64 ti, .int .i64 op, .int .i64 rd, .int .i64 q0, .int .i64 q1, .int .i64 q2, .int .i64 q3, .int .i64 s1, .int .i64 s2, .int .i64 h1, .int .i64 h2, .slice A zs.length cap, .int .i64 c0, .int .i64 c1, .int .i64 c2, .string nm, .int .i64 c3, .int .i64 c4, .int .i64 c5, .int .i64 c6, .int .i64 c7, .int .i64 up, .slice E en ec, .slice L ln lc, .slice D dn dc, .bool more] 66) := ⟨_, rfl⟩
  have kW : Keeps None w W := by rw [hW]; exact ((Keeps.refl None w).alloc _).alloc _
  have hWs : W.heap.size = w.heap.size + 2 := by rw [hW]; simp only [World.size_alloc]
  have hP : Blk W w.heap.size 162 [.pointer (some ⟨tg, 0, Option.none⟩)] := by rw [hW]; exact (Blk.new w _ _).alloc _
  have hM : Blk W (w.heap.size + 1) 66 [.int .i64 kind, .bool fc, .int .i64 fi, .bool tc, .int .i64 ti, .int .i64 op, .int .i64 rd, .int .i64 q0, .int .i64 q1, .int .i64 q2, .int .i64 q3, .int .i64 s1, .int .i64 s2, .int .i64 h1, .int .i64 h2, .slice A zs.length cap, .int .i64 c0, .int .i64 c1, .int .i64 c2, .string nm, .int .i64 c3, .int .i64 c4, .int .i64 c5, .int .i64 c6, .int .i64 c7, .int .i64 up, .slice E en ec, .slice L ln lc, .slice D dn dc, .bool more] := by
    have := Blk.new (w.alloc (.cells #[.pointer (some ⟨tg, 0, Option.none⟩)] 162)) 66 [.int .i64 kind, .bool fc, .int .i64 fi, .bool tc, .int .i64 ti, .int .i64 op, .int .i64 rd, .int .i64 q0, .int .i64 q1, .int .i64 q2, .int .i64 q3, .int .i64 s1, .int .i64 s2, .int .i64 h1, .int .i64 h2, .slice A zs.length cap, .int .i64 c0, .int .i64 c1, .int .i64 c2, .string nm, .int .i64 c3, .int .i64 c4, .int .i64 c5, .int .i64 c6, .int .i64 c7, .int .i64 up, .slice E en ec, .slice L ln lc, .slice D dn dc, .bool more]
    rw [← hW] at this
    simpa only [World.size_alloc] using this
  have p0 := hP.cell 0 _ rfl
  have m0 := hM.cell 0 _ rfl
  by_cases hkind : kind = 11
  · subst hkind
    have m2 := hM.cell 2 _ rfl
    have m11 := hM.cell 11 _ rfl
    have m12 := hM.cell 12 _ rfl
    have m15 := hM.cell 15 _ rfl
    obtain ⟨es, ck, hes⟩ := hmap
    have hesW : W.heap[bm]? = some (.map es ck) := (kW.block bm htl.2 id).trans hes
    have hZW := hZ.grew kW
    have hZ2 : ∀ w', Keeps (One bm) W w' → Nums .u8 w' A zs := fun w' hk => hZW.off_map hesW hk
    have hb0 : ¬ One bm w.heap.size := fun e => by simp only [One] at e; omega
    have hb1 : ¬ One bm (w.heap.size + 1) := fun e => by simp only [One] at e; omega
    obtain ⟨T, hTT⟩ : ∃ T, T = TookB h.grp h.need (rs.map Rec.pair) fi := ⟨_, rfl⟩
    have hgotl : (rs.map Rec.pair).length ≤ 140737488351232 := by
      rw [List.length_map]
      have h1 := ok.grp
      have h2 : h.need = ((h.grp.length / 2 + 1 : Nat) : Int) := rfl
      omega
    have HZ2 := Lib.hid hZ2
    have HTW := Lib.hid (hT.grew kW)
    have HES := Lib.hid hesW
    clear hZ2 hesW
    refine (callsIn_wide (n := 6)).1 ?_
    refine callsIn_of_wp_marks Try.func97 rfl trivial ?_ rfl
    simp only [Try.ntmps97, List.size_toArray, List.length_cons, List.length_nil, Nat.reduceAdd, Nat.reduceSub, Array.replicate_succ, Array.replicate_zero, List.push_toArray, List.append_toArray, List.nil_append, List.cons_append]
    refine wpIn_mono (Q := NoPan _) ?_ (fun e a w h => NoPan.le h)
    refine wpIn_wide.2 ?_
    go_wp2_with fail
    rw [← hW]
    clear hW
    refine start_ (ds := []) (S := (fun w' => Keeps (One bm) W w')) #[false, false, false, false, false, false, false, false, false, false, false, false, false, false, false, false, false, false] (by kernel_rfl) rfl rfl ((Keeps.refl _ _).drew) (fun hS0 => ?_)
    refine pure_ (i := 0) (N := some 12) (v := .pointer (some ⟨w.heap.size + 1, 0, Option.none⟩)) #[true, false, false, false, false, false, false, false, false, false, false, false, false, false, false, false, false, false] rfl rfl (by kernel_rfl) (fun _ _ _ h => h) (Or.inl ⟨wanted_none rfl, fun w => by go_simp⟩) rfl ?_
    try simp only [Act.put, List.setIfInBounds_toArray, List.set_cons_zero, List.set_cons_succ]
    refine take_ (i := 1) (N := some 13) (v := .int .i64 11) #[true, true, false, false, false, false, false, false, false, false, false, false, false, false, false, false, false, false] rfl rfl (by kernel_rfl) (fun _ _ _ h => h) (Or.inl ⟨wanted_none rfl, by intro w' hSw; have q := hSw.cell m0 hb1; go_simp⟩) hS0 rfl ?_
    try simp only [Act.put, List.setIfInBounds_toArray, List.set_cons_zero, List.set_cons_succ]
    refine pure_ (i := 2) (N := some 14) (v := .bool false) #[true, true, true, false, false, false, false, false, false, false, false, false, false, false, false, false, false, false] rfl rfl (by kernel_rfl) (fun _ _ _ h => h) (Or.inl ⟨wanted_none rfl, fun w => by go_simp⟩) rfl ?_
    try simp only [Act.put, List.setIfInBounds_toArray, List.set_cons_zero, List.set_cons_succ]
    refine pure_ (i := 3) (N := some 15) (v := .bool false) #[true, true, true, true, false, false, false, false, false, false, false, false, false, false, false, false, false, false] rfl rfl (by kernel_rfl) (fun _ _ _ h => h) (Or.inl ⟨wanted_none rfl, fun w => by rfl⟩) rfl ?_
    try simp only [Act.put, List.setIfInBounds_toArray, List.set_cons_zero, List.set_cons_succ]
    refine pure_ (i := 4) (N := some 16) (v := .pointer (some ⟨w.heap.size, 0, Option.none⟩)) #[true, true, true, true, true, false, false, false, false, false, false, false, false, false, false, false, false, false] rfl rfl (by kernel_rfl) (fun _ _ _ h => h) (Or.inl ⟨by rfl, fun w => by go_simp⟩) rfl ?_
    try simp only [Act.put, List.setIfInBounds_toArray, List.set_cons_zero, List.set_cons_succ]
    refine take_ (i := 5) (N := some 17) (v := .pointer (some ⟨tg, 0, Option.none⟩)) #[true, true, true, true, true, true, false, false, false, false, false, false, false, false, false, false, false, false] rfl rfl (by kernel_rfl) (fun _ _ _ h => h) (Or.inl ⟨by rfl, by intro w' hSw; have q := hSw.cell p0 hb0; go_simp⟩) hS0 rfl ?_
    try simp only [Act.put, List.setIfInBounds_toArray, List.set_cons_zero, List.set_cons_succ]
    refine pure_ (i := 6) (N := some 18) (v := .pointer (some ⟨w.heap.size + 1, 1, Option.none⟩)) #[true, true, true, true, true, true, true, false, false, false, false, false, false, false, false, false, false, false] rfl rfl (by kernel_rfl) (fun _ _ _ h => h) (Or.inl ⟨by rfl, fun w => by go_simp⟩) rfl ?_
    try simp only [Act.put, List.setIfInBounds_toArray, List.set_cons_zero, List.set_cons_succ]
    refine pure_ (i := 7) (N := some 19) (v := .pointer (some ⟨w.heap.size + 1, 1 + 1, Option.none⟩)) #[true, true, true, true, true, true, true, true, false, false, false, false, false, false, false, false, false, false] rfl rfl (by kernel_rfl) (fun _ _ _ h => h) (Or.inl ⟨by rfl, fun w => by go_simp⟩) rfl ?_
    try simp only [Act.put, List.setIfInBounds_toArray, List.set_cons_zero, List.set_cons_succ]
    refine take_ (i := 8) (N := some 20) (v := .int .i64 fi) #[true, true, true, true, true, true, true, true, true, false, false, false, false, false, false, false, false, false] rfl rfl (by kernel_rfl) (fun _ _ _ h => h) (Or.inl ⟨by rfl, by intro w' hSw; have q := hSw.cell m2 hb1; go_simp⟩) hS0 rfl ?_
    try simp only [Act.put, List.setIfInBounds_toArray, List.set_cons_zero, List.set_cons_succ]
    refine pure_ (i := 9) (N := some 21) (v := .pointer (some ⟨w.heap.size + 1, 11, Option.none⟩)) #[true, true, true, true, true, true, true, true, true, true, false, false, false, false, false, false, false, false] rfl rfl (by kernel_rfl) (fun _ _ _ h => h) (Or.inl ⟨by rfl, fun w => by go_simp⟩) rfl ?_
    try simp only [Act.put, List.setIfInBounds_toArray, List.set_cons_zero, List.set_cons_succ]
    refine take_ (i := 10) (N := some 22) (v := .agg #[.int .i64 s1, .int .i64 s2]) #[true, true, true, true, true, true, true, true, true, true, true, false, false, false, false, false, false, false] rfl rfl (by kernel_rfl) (fun _ _ _ h => h) (Or.inl ⟨by rfl, by intro w' hSw; have q0 := hSw.cell m11 hb1; have q1 := hSw.cell m12 hb1; go_simp⟩) hS0 rfl ?_
    try simp only [Act.put, List.setIfInBounds_toArray, List.set_cons_zero, List.set_cons_succ]
    refine pure_ (i := 11) (N := some 23) (v := .pointer (some ⟨w.heap.size + 1, 15, Option.none⟩)) #[true, true, true, true, true, true, true, true, true, true, true, true, false, false, false, false, false, false] rfl rfl (by kernel_rfl) (fun _ _ _ h => h) (Or.inl ⟨by rfl, fun w => by go_simp⟩) rfl ?_
    try simp only [Act.put, List.setIfInBounds_toArray, List.set_cons_zero, List.set_cons_succ]
    refine take_ (i := 12) (N := some 24) (v := .slice A zs.length cap) #[true, true, true, true, true, true, true, true, true, true, true, true, true, false, false, false, false, false] rfl rfl (by kernel_rfl) (fun _ _ _ h => h) (Or.inl ⟨by rfl, by intro w' hSw; have q := hSw.cell m15 hb1; go_simp⟩) hS0 rfl ?_
    try simp only [Act.put, List.setIfInBounds_toArray, List.set_cons_zero, List.set_cons_succ]
    refine one_ (i := 13) (oi := ({ dst := some 25, op := Op.call { callee := Callee.value (Operand.func 36), args := #[Operand.tmp 24], argTypes := #[24] }, type := 24, pos := "register.go:136", after := #[{ on := 12, ground := Ground.data }, { on := 3, ground := Ground.chain }, { on := 3, ground := Ground.guard }], guard := some (3, false) } : Oper)) (N := some 25) #[true, true, true, true, true, true, true, true, true, true, true, true, true, true, false, false, false, false] rfl rfl (by kernel_rfl) (by decide) ?_
    intro KK hKK
    refine goes_ Try.func36 (by kernel_rfl) rfl #[.slice A zs.length cap] (by rfl) rfl rfl (by simp [Act.eval]) ?_
    refine (clone_any A zs.length cap zs _ (HZ2.out _ hS0) rfl hz).mono ?_
    rintro e w2 ⟨vw, rfl, hrow, hk2⟩
    obtain ⟨Au, cu, rfl⟩ := hrow.slice
    have hT2 := (HTW.out.grew (Keeps.refl None W).drew).grew hk2
    have hm2 := hS0.trans hk2.of_none
    refine ⟨_, rfl, hKK.out _ _ hm2 (fun hS1 => ?_)⟩
    try simp only [Act.put, List.setIfInBounds_toArray, List.set_cons_zero, List.set_cons_succ]
    refine pure_ (i := 14) (N := some 26) (v := .agg #[.int .i64 s1, .int .i64 s2, .slice Au zs.length cu]) #[true, true, true, true, true, true, true, true, true, true, true, true, true, true, true, false, false, false] rfl rfl (by kernel_rfl) (fun _ _ _ h => h) (Or.inl ⟨by rfl, fun w => by go_simp⟩) rfl ?_
    try simp only [Act.put, List.setIfInBounds_toArray, List.set_cons_zero, List.set_cons_succ]
    refine one_ (i := 15) (oi := ({ dst := some 27, op := Op.call { callee := Callee.value (Operand.func 96), args := #[Operand.tmp 17, Operand.tmp 20, Operand.tmp 26], argTypes := #[159, 3, 26] }, type := 4, pos := "register.go:136", after := #[{ on := 5, ground := Ground.data }, { on := 8, ground := Ground.data }, { on := 14, ground := Ground.data }, { on := 13, ground := Ground.chain }, { on := 3, ground := Ground.guard }], guard := some (3, false) } : Oper)) (N := some 27) #[true, true, true, true, true, true, true, true, true, true, true, true, true, true, true, true, false, false] rfl rfl (by kernel_rfl) (by decide) ?_
    intro KK hKK
    refine goes_ Try.func96 (by kernel_rfl) rfl #[.pointer (some ⟨tg, 0, Option.none⟩), .int .i64 fi, .agg #[.int .i64 s1, .int .i64 s2, .slice Au zs.length cu]] (by rfl) rfl rfl (by simp [Act.eval]) ?_
    refine (TB.take_any tg base vg h.grp h.need bm (rs.map Rec.pair) fi s1 s2 Au zs.length cu w2 hT2 hfi (by have := ok.grp; omega) hgotl).mono ?_
    rintro e w3 ⟨rfl, hT3, hk3⟩
    have hm3 := hS1.trans hk3
    rw [← hTT]
    refine ⟨_, rfl, hKK.out _ _ hm3 (fun hS2 => ?_)⟩
    try simp only [Act.put, List.setIfInBounds_toArray, List.set_cons_zero, List.set_cons_succ]
    refine pure_ (i := 16) (N := some 28) (v := .bool (!T)) #[true, true, true, true, true, true, true, true, true, true, true, true, true, true, true, true, true, false] rfl rfl (by kernel_rfl) (fun _ _ _ h => h) (Or.inl ⟨by rfl, fun w => by go_simp⟩) rfl ?_
    try simp only [Act.put, List.setIfInBounds_toArray, List.set_cons_zero, List.set_cons_succ]
    refine pure_ (i := 17) (N := some 29) (v := .bool (!T)) #[true, true, true, true, true, true, true, true, true, true, true, true, true, true, true, true, true, true] rfl rfl (by kernel_rfl) (fun _ _ _ h => h) (Or.inl ⟨wanted_none rfl, fun w => by go_simp⟩) rfl ?_
    try simp only [Act.put, List.setIfInBounds_toArray, List.set_cons_zero, List.set_cons_succ]
    refine done_ (by kernel_rfl) ?_
    have kw3 := kW.of_none.trans hm3
    have hrow3 : Row .u8 5 w3 w.heap.size (.slice Au zs.length cu) zs := (hrow.keeps hk3 (fun b e f => by
      have h1 := (hrow.lt b e).1
      have h2 : W.drew.heap.size = W.heap.size := rfl
      simp only [One] at f
      omega)).down (by have h2 : W.drew.heap.size = W.heap.size := rfl; omega)
    have hT3' := hT3
    rw [← recMore_pair h.grp h.need rs ⟨fi, (s1, s2), .slice Au zs.length cu, zs⟩] at hT3'
    have hs3 := kw3.size
    have hA3 := asked_parts (round := round) hg hB hR hv hU hbl hxb hgl hrs ⟨es, ck, hes⟩ kw3 hT3' (fun r hr => (recMore_mem hr).imp id (fun e => by subst e; exact ⟨hrow3, hz⟩))
    have HA3 := Lib.hid hA3
    have HT3 := Lib.hid hT3'
    clear hA3 hT3 hT3' hT2 hrow hk2 hm2 hS0 hS1 hk3
    cases hTc : T with
    | false =>
      have ea := Lib.hid (ask_false h round rs ⟨fi, (s1, s2), .slice Au zs.length cu, zs⟩ (by rw [← hTT, hTc]))
      subst hTc
      clear hTT
      go_wp2_with fail
      refine ⟨_, results_tmp rfl _ _ _, ?_⟩
      have e2 := ea.out
      rw [e2]
      refine ⟨_, w3.heap.size, _, rfl, HA3.out.mach hg hgl hX ok hxt hxb hvg hr hs3 (recMore_len hlen), rfl, fun _ => .inl, ?_, ?_, hs3, kw3.mono (fun k _ e => by simp only [One] at e; exact .inl (e ▸ hxb))⟩
      · rintro b (e | e)
        · exact .inl e
        · exact .inr e.1
      · rintro b (e | e)
        · have := hX b e; omega
        · exact e.2
    | true =>
      obtain ⟨ea0, er⟩ := ask_true h round rs ⟨fi, (s1, s2), .slice Au zs.length cu, zs⟩ (by rw [← hTT, hTc])
      have ea := Lib.hid ea0
      subst hTc
      rw [er] at HA3 HT3
      obtain ⟨rs2, hrs2⟩ : ∃ rs2, rs2 = rs ++ [⟨fi, (s1, s2), .slice Au zs.length cu, zs⟩] := ⟨_, rfl⟩
      rw [← hrs2] at HA3 HT3 ea
      have hP3 := hP.keeps hm3 hb0
      clear hTT ea0 er hrs2 hP hM m0 m2 m11 m12 m15 p0 hrow3 HZ2 HTW HES
      have k4 : Keeps None w3 (w3.alloc (.cells #[.slice Option.none 0 0] 174)) := (Keeps.refl _ _).alloc _
      have hC4 := Blk.new w3 174 [.slice Option.none 0 0]
      have p4 := (hP3.grew k4).cell 0 _ rfl
      go_wp2_with fail
      refine (TB.gotseq_any tg base vg h.grp h.need bm (rs2.map Rec.pair) _ (HT3.out.grew k4) ok.wf ok.grp).mono ?_
      rintro e w5 ⟨rfl, ⟨v1, v2, bs, h2w, hbs⟩, hk5⟩
      have k35 : Keeps None w3 w5 := k4.trans hk5
      have hC5 := hC4.grew hk5
      have hal := ansF_len h.grp (rs2.map Rec.pair)
      have hhl : (hasF h.grp (rs2.map Rec.pair)).length ≤ h.grp.length := List.length_filter_le _ _
      have hbl2 : bs.length = (hasF h.grp (rs2.map Rec.pair)).length := by rw [← hal, ← hbs, List.length_map]
      have hst5 : bs.map (fun y => (y.n, y.c)) = (ansA h.grp (rs2.map Rec.ans)).map (·.st) := by
        rw [← recsA_ans, List.map_map]
        have h1 : bs.map BV.val = (recsA h.grp rs2).map (fun r => blkV r.st r.dv) := by rw [hbs, recsA_val]
        exact stamps_of _ _ h1
      have hgrp := ok.grp
      simp only [World.size_alloc] at h2w
      have hlt2 : w3.heap.size + 1 + 1 < w5.heap.size := h2w.blk2.lt
      have hr1 := h2w.row1.lt
      have hr2 := h2w.row2.lt
      have HST := Lib.hid hst5
      have HBS := Lib.hid hbs
      clear hst5 hbs hal
      go_wp2_with fail
      rename_i KL hKL
      refine (wpIn_wide (n := 6)).1 ?_
      refine range_good (F := Fence.wide) rfl (by omega) (gf := 107) (lb := #[.pointer (some ⟨w3.heap.size + 1, 0, Option.none⟩), .pointer (some ⟨w3.heap.size + 1 + 1, 0, Option.none⟩)]) rfl trivial (enters_of Try.func107 (by kernel_rfl) rfl)
        (seqB 5 (by omega) (w3.heap.size + 1) (w3.heap.size + 1) (w3.heap.size + 1 + 1) v1 v2 (hasF h.grp (rs2.map Rec.pair)) bs hbl2 (by omega)) (fun _ => rfl) w5.heap.size rfl
        (SI w5 w3.heap.size) (fun _ _ _ => False) (fun b => b = w3.heap.size ∨ w5.heap.size + 2 ≤ b) ⟨fun e => by omega, fun e => by omega⟩
        ?_ (fun _ _ _ _ h _ => h) ?_ ⟨⟨_, hC5, World.ownsRow_nil _ _ _ _⟩, Keeps.refl _ _⟩ h2w
        (fun x => #[.agg #[.pointer (some ⟨tg, 0, Option.none⟩)], .pointer (some ⟨g, 0, Option.none⟩), .agg #[.int .i64 11, .bool fc, .int .i64 fi, .bool tc, .int .i64 ti, .int .i64 op, .int .i64 rd, .int .i64 q0, .int .i64 q1, .int .i64 q2, .int .i64 q3, .int .i64 s1, .int .i64 s2, .int .i64 h1, .int .i64 h2, .slice A zs.length cap, .int .i64 c0, .int .i64 c1, .int .i64 c2, .string nm, .int .i64 c3, .int .i64 c4, .int .i64 c5, .int .i64 c6, .int .i64 c7, .int .i64 up, .slice E en ec, .slice L ln lc, .slice D dn dc, .bool more], .pointer (some ⟨w.heap.size, 0, Option.none⟩), undef, .pointer (some ⟨w.heap.size + 1, 0, Option.none⟩), .slice Option.none 0 0, .pointer (some ⟨w3.heap.size, 0, Option.none⟩), undef, undef, undef, undef, .pointer (some ⟨w.heap.size + 1, 0, Option.none⟩), .int .i64 11, .bool false, .bool false, .pointer (some ⟨w.heap.size, 0, Option.none⟩), .pointer (some ⟨tg, 0, Option.none⟩), .pointer (some ⟨w.heap.size + 1, 1, Option.none⟩), .pointer (some ⟨w.heap.size + 1, 2, Option.none⟩), .int .i64 fi, .pointer (some ⟨w.heap.size + 1, 11, Option.none⟩), .agg #[.int .i64 s1, .int .i64 s2], .pointer (some ⟨w.heap.size + 1, 15, Option.none⟩), .slice A zs.length cap, .slice Au zs.length cu, .agg #[.int .i64 s1, .int .i64 s2, .slice Au zs.length cu], .bool true, .bool false, .bool false, .pointer (some ⟨w.heap.size, 0, Option.none⟩), .pointer (some ⟨tg, 0, Option.none⟩), (.func (.func 107) #[] #[.pointer (some ⟨w3.heap.size + 1, 0, Option.none⟩), .pointer (some ⟨w3.heap.size + 1 + 1, 0, Option.none⟩)]), .int .i64 x.1, x.2.val, undef, undef, undef, undef, undef, undef, undef, undef, undef, undef, undef, undef, undef, undef, undef, undef, undef, undef, undef, undef, undef, undef, undef, undef, undef, undef, undef, undef, undef, undef, undef, undef, undef, undef, undef, undef, undef, undef, undef, undef, undef, undef, undef, undef, undef, undef, undef, undef, undef, undef, undef, undef, undef, undef, undef, undef, undef, undef, undef, undef, undef, undef, undef, undef, undef, undef, undef, undef, undef, undef, undef, undef, undef, undef, undef, undef, undef, undef, undef, undef, undef, undef, undef, undef, undef, undef, undef, undef, undef, undef, undef, undef, undef, undef, undef, undef, undef, undef]) (fun x => by simp [encB]) ?_ ?_ (fun _ _ _ _ h _ => h.elim)
      · rintro pre Y Z ⟨⟨u, a1, a2⟩, a4⟩ hk
        exact ⟨⟨u, a1.keeps hk (fun e => by simp only [One] at e; omega), owns_keeps a2 hk (fun b hb e => by have := (World.ownsRow.lt a2 b hb).1; simp only [One] at e; omega)⟩, a4.andThen hk (fun i hi e => by simp only [One] at e; omega)⟩
      · rintro Y Z h hk
        exact h.keeps hk (fun e => by simp only [One] at e; omega) (fun e => by simp only [One] at e; omega) (fun b e f => by simp only [One] at f; have := (hr1 b e).2; omega) (fun b e f => by simp only [One] at f; have := (hr2 b e).2; omega)
      · rintro pre ⟨ss, sn, sc, sA, sm, scap⟩ W0 Wr ⟨⟨u, hb0', hr0⟩, hK0⟩ hk0' hpre hSt hlen' hlt
        obtain ⟨Au', cu', rfl⟩ := owns_slice hr0
        simp only [BV.val]
        gi_wp2
        have kY := (Keeps.refl None Wr).alloc (.cells #[.int .i64 sn, .int .i64 sc, .slice sA sm scap] 26)
        refine ⟨kY, fun w2' hkw2 => ?_⟩
        have hW2 : ∀ b, b ≠ w5.heap.size + 1 → ¬ One (w5.heap.size + 1) b := fun b hb e => hb e
        have k02 := hk0'.trans kY
        have hsW := hk0'.size
        have hbX : Blk w2' Wr.heap.size 26 [.int .i64 sn, .int .i64 sc, .slice sA sm scap] := (Blk.new Wr _ _).keeps hkw2 (hW2 _ (by omega))
        have hb2 := (hb0'.grew k02).keeps hkw2 (hW2 _ (by omega))
        have hr2' := owns_keeps (owns_grew hr0 k02) hkw2 (fun b hb e => by have := (World.ownsRow.lt hr0 b hb).1; simp only [One] at e; omega)
        have hK2 := (hK0.andThen k02 (fun _ _ f => f.elim)).andThen hkw2 (fun i hi e => by simp only [One] at e; omega)
        have hSt2 := (hSt.grew kY).keeps hkw2 (fun e => by simp only [One] at e; omega) (fun e => by simp only [One] at e; omega) (fun b e f => by simp only [One] at f; have := (hr1 b e).2; omega) (fun b e f => by simp only [One] at f; have := (hr2 b e).2; omega)
        have hs2' := hkw2.size
        have hsY := kY.size
        have x0 := hbX.cell 0 _ rfl
        have x1 := hbX.cell 1 _ rfl
        have c4 := hb2.cell 0 _ rfl
        have hbn := Blk.new w2' 23 [.int .i64 sn, .int .i64 sc]
        have kn := (Keeps.refl None w2').alloc (.cells #[.int .i64 sn, .int .i64 sc] 23)
        have hNL : pre.length ≤ 1000 := by omega
        clear hk0' hlen'
        gi_wp2_with (gi_at_builtin; refine wpListIn_append_row _ rfl (.tmp 35) (.tmp 38) 174 rfl (w5.heap.size + 2) 23 iS _ 2 16 Try.underlying174 hiS hzS0 hzS1 hzS2 rfl (by decide) (.slice Au' pre.length cu') pre.length (stCells (pre.map fun x => (x.2.n, x.2.c))) rfl (owns_grew hr2' kn) (some ⟨w2'.heap.size, 0, Option.none⟩) 1 1 [.int .i64 sn, .int .i64 sc] rfl rfl (fun e => by cases e) (src_cells hbn) (by intro u hu; simp at hu; rcases hu with rfl | rfl <;> rfl) (by unfold maxLen; omega) (by omega) (by have := kn.size; omega) ?_; intro v6 w6 hown6 hk6 hloc6; obtain ⟨A6, c6', rfl⟩ := owns_slice hown6; have hb6 := (hb2.grew kn).keeps hk6 (fun e => by have := (World.ownsRow.lt hr2' _ e).1; omega); have f6 := hb6.free 0; have c6c := hb6.cell 0 _ rfl)
        have ks : Keeps (One w3.heap.size) w6 (w6.setCell ⟨w3.heap.size, 0, Option.none⟩ (.slice A6 (pre.length + 1) c6')) := (Keeps.refl _ _).setCell _ _ (fun _ => rfl)
        have hvlt := World.ownsRow.lt hr2'
        have kall : Keeps (fun b => b = w3.heap.size ∨ w5.heap.size + 2 ≤ b) w2' (w6.setCell ⟨w3.heap.size, 0, Option.none⟩ (.slice A6 (pre.length + 1) c6')) :=
          (kn.of_none.andThen hk6 (fun i _ e => .inr (hvlt i e).1)).andThen ks (fun _ _ e => .inl e)
        refine ⟨kall, hSt2.keeps kall (fun e => by omega) (fun e => by omega) (fun b e f => by have := hr1 b e; omega) (fun b e f => by have := hr2 b e; omega), ⟨⟨_, hb6.set 0 _, ?_⟩, hK2.andThen kall (fun _ _ e => e)⟩⟩
        have h6 := owns_keeps hown6 ks (fun b hb e => by
          simp only [One] at e
          rcases hloc6 with h | h
          · have := (hvlt b (h ▸ hb)).1; omega
          · rw [hb] at h; have := Option.some.inj h; have := kn.size; omega)
        simpa [stCells, List.flatMap_append] using h6
      · rintro xs Wl rfl ⟨⟨u, b1, b2⟩, b3⟩ hD
        have K3 : Keeps None w3 Wl := k35.andThen b3 (fun i hi e => by have := k35.size; omega)
        have hBl := HA3.out.B.grew K3
        have hRl := HA3.out.R.grew K3
        have hUl := HA3.out.U.grew K3
        have hTl := HA3.out.T.grew K3
        have hPl := hP3.grew K3
        have hs35 := K3.size
        have hwl := zip_snd (hasF h.grp (rs2.map Rec.pair)) bs hbl2
        obtain ⟨ls, hls⟩ : ∃ ls : List (Int × Int), ls = (ansA h.grp (rs2.map Rec.ans)).map (·.st) := ⟨_, rfl⟩
        have e1 : ((hasF h.grp (rs2.map Rec.pair)).zip bs).map (fun x => (x.2.n, x.2.c)) = ls := by
          rw [hls, ← HST.out]
          conv => rhs; rw [← hwl]
          rw [List.map_map]
          rfl
        have e2 : ((hasF h.grp (rs2.map Rec.pair)).zip bs).length = ls.length := by rw [← e1, List.length_map]
        rw [e1, e2] at b2
        have hw5 : w5.heap.size < Wl.heap.size := (Array.getElem?_eq_some_iff.1 hD).1
        have hll : ls.length ≤ 1000 := by rw [← e2, List.length_zip]; omega
        obtain ⟨Al, cl, rfl⟩ := owns_slice b2
        have hSl := St.of_row b2
        have c7 := b1.cell 0 _ rfl
        have HLS := Lib.hid hls
        have hALB : ∀ b o, Al = some ⟨b, o, Option.none⟩ → b < Wl.heap.size := fun b o e => by
          subst e
          have := World.ownsRow.lt b2 b rfl
          exact this.2
        clear e1 e2 hwl hls HST h2w hC5 k35 hk5 k4 hC4 hP3 p4 b3 b2
        change KL _ _
        refine hKL _ _ ?_
        clear hKL KL
        go_wp2_with fail
        refine (max_any Al ls.length cl ls Wl hSl rfl (by omega)).mono ?_
        rintro e W6 ⟨rfl, hk6⟩
        have HALB : Hid (∀ b o, Al = some ⟨b, o, Option.none⟩ → b ≠ W6.heap.size + 1) := Lib.hid (fun b o e f => by have := hALB b o e; have := hk6.size; omega)
        clear hALB
        obtain ⟨⟨g1, g2⟩, hG⟩ : ∃ x, x = bestOf ls := ⟨_, rfl⟩
        rw [← hG]
        simp only [stV]
        have HG := Lib.hid hG
        clear hG c7
        have kX6 : Keeps None W6 ((W6.alloc (.cells #[.int .i64 g1, .int .i64 g2] 23)).alloc (.cells #[.int .i64 g1, .int .i64 g2, .slice Option.none 0 0] 26)) := ((Keeps.refl _ _).alloc _).alloc _
        have hS10 := (Blk.new W6 23 [.int .i64 g1, .int .i64 g2]).alloc (.cells #[.int .i64 g1, .int .i64 g2, .slice Option.none 0 0] 26)
        have hB11 : Blk ((W6.alloc (.cells #[.int .i64 g1, .int .i64 g2] 23)).alloc (.cells #[.int .i64 g1, .int .i64 g2, .slice Option.none 0 0] 26)) (W6.heap.size + 1) 26 [.int .i64 g1, .int .i64 g2, .slice Option.none 0 0] := by
          have := Blk.new (W6.alloc (.cells #[.int .i64 g1, .int .i64 g2] 23)) 26 [.int .i64 g1, .int .i64 g2, .slice Option.none 0 0]
          rwa [World.size_alloc] at this
        have k6a := hk6.trans kX6
        have hB7 := hBl.grew k6a
        have hR7 := hRl.grew k6a
        have hU7 := hUl.grew k6a
        have hT7 := hTl.grew k6a
        have hP7 := hPl.grew k6a
        have hS7 := hSl.grew k6a
        have hb7 := b1.grew k6a
        have hD7 := (k6a.block _ (Array.getElem?_eq_some_iff.1 hD).1 id).trans hD
        have K7 := K3.trans k6a
        obtain ⟨W7, hW7⟩ : ∃ W7, W7 = (W6.alloc (.cells #[.int .i64 g1, .int .i64 g2] 23)).alloc (.cells #[.int .i64 g1, .int .i64 g2, .slice Option.none 0 0] 26) := ⟨_, rfl⟩
        have hs7 := K7.size
        have hs6 := hk6.size
        have hz7 : W7.heap.size = W6.heap.size + 2 := by rw [hW7]; simp only [World.size_alloc]
        rw [← hW7] at hS10 hB11 hB7 hR7 hU7 hT7 hP7 hS7 hb7 hD7 K7 hs7
        clear hBl hRl hUl hTl hPl hSl b1 hD kX6 k6a K3
        go_upto_block 2 with (fail)
        rw [← hW7]
        clear hW7
        have hgB : w5.heap.size ≠ g := by omega
        have hkX : Keeps (fun k => X k ∨ k = g) w w3 := kw3.mono (fun k _ e => by simp only [One] at e; exact .inl (e ▸ hxb))
        have hA3v := HA3.out.v
        have hA3b := HA3.out.bl
        have s0 := hS10.cell 0 _ rfl
        have s1' := hS10.cell 1 _ rfl
        have p7 := hP7.cell 0 _ rfl
        obtain ⟨bw, hbw⟩ : ∃ b, b = h.wr := ⟨_, rfl⟩
        rw [← hbw] at hB7
        have HBW := Lib.hid hbw
        clear hbw
        have n0 := hB7.cell 0 _ rfl
        have n9 := hB7.cell 9 _ rfl
        have n10 := hB7.cell 10 _ rfl
        obtain ⟨Au2, cu2, rfl⟩ := hU7.slice
        obtain ⟨ll, hll2⟩ : ∃ ll, ll = ansA h.grp (rs2.map Rec.ans) := ⟨_, rfl⟩
        have HLL := Lib.hid hll2
        have HGL : Hid ((g1, g2) = bestOf (ll.map (·.st))) := Lib.hid (by rw [HG.out, HLS.out, ← hll2])
        clear hll2
        go_cut [] from 44 to 90 (fun wx => ∃ (t1 t2 : Int) (Ad : Option Addr) (cd : Nat) (ds : List Int), Blk wx (W6.heap.size + 1) 26 [.int .i64 t1, .int .i64 t2, .slice Ad ds.length cd] ∧ Row .u8 5 wx base (.slice Ad ds.length cd) ds ∧ In (fun b => X b ∨ (w.heap.size ≤ b ∧ b < wx.heap.size)) (.slice Ad ds.length cd) ∧ ds.length ≤ MB ∧ Keeps (One (W6.heap.size + 1)) W7 wx ∧
          Hid (secondF h round ll = if 1099511627776 ≤ round then (round, .ended 4 (0, 0) [], .no) else (round + 1, .laying [] (t1, t2) ds, .msgs 2 (round + 1) (t1, t2) ds h.grp)))
        case first =>
          cases bw with
          | true =>
            by_cases hg1 : 1099511627776 ≤ g1
            · have ed : decide (g1 ≥ 1099511627776) = true := decide_eq_true hg1
              have HS2 : Hid (secondF h round ll = (round, .ended 4 (0, 0) [], .no)) := Lib.hid (by unfold secondF; rw [← HGL.out]; simp [← HBW.out, hg1])
              clear hg1
              go_wp2_with fail
              refine (end_any g h.client h.op round h.need h.k0 h.k1 h.k2 h.k3 v true _ h.size (askV tg) 4 (0, 0) Option.none 0 0 W7 hB7).mono ?_
              rintro e W8 ⟨rfl, hB8, hk8⟩
              have hD8 := (hk8.block _ (Array.getElem?_eq_some_iff.1 hD7).1 (fun e => hgB e)).trans hD7
              have hgX : ∀ b, X b → b ≠ g := fun b hb e => hg.1 (e ▸ hb)
              have hk08 : Keeps (fun k => X k ∨ k = g) w W8 := (hkX.trans K7.of_none).trans (hk8.mono (fun _ _ e => .inr e))
              rw [HBW.out] at hB8
              have hfin := fin_put (B0 := w5.heap.size) hg hgl hX ok hB8 (hR7.keeps hk8 (fun b e f => hgX b (hA3v b e) f)) hA3v (hU7.keeps hk8 (fun b e f => hgX b (hA3b b e) f)) hA3b (Row.nil _ _ _ _) (In.nil _) (by simp) hk08 (by omega)
              have HFIN := Lib.hid hfin
              clear hfin hgX hk08
              go_wp2_with fail
              refine ⟨by simp, .inl ⟨_, _, rfl, run_takeDeferred hD8, ?_⟩⟩
              refine ⟨_, results_tmp rfl _ _ _, ?_⟩
              have e9 := ea.out
              rw [← HLL.out, HS2.out] at e9
              rw [e9]
              exact HFIN.out
            · have ed : decide (g1 ≥ 1099511627776) = false := decide_eq_false hg1
              have HS2 : Hid (secondF h round ll = if 1099511627776 ≤ round then (round, .ended 4 (0, 0) [], .no) else (round + 1, .laying [] (wrap64 (g1 + 1), h.client) h.blk, .msgs 2 (round + 1) (wrap64 (g1 + 1), h.client) h.blk h.grp)) := Lib.hid (by unfold secondF; rw [← HGL.out]; simp [← HBW.out, hg1])
              have HBW2 := HBW.out
              have k7d : Keeps None W7 W7.drew := (Keeps.refl None W7).drew
              have hB11d := hB11.grew k7d
              have hU7d := hU7.grew k7d
              have u0 := hB11d.cell 0 _ rfl
              have u1 := hB11d.cell 1 _ rfl
              have u2 := hB11d.cell 2 _ rfl
              have u3 := hB11d.free 0
              have u4 := hB11d.free 1
              have u5 := hB11d.free 2
              clear HBW2
              go_wp2_with fail
              go_still_tail 13, (by kernel_rfl)
              change wpList _ _ _ _ _ W7.drew
              obtain ⟨Wd, hWd⟩ : ∃ Wd, Wd = W7.drew := ⟨_, rfl⟩
              rw [← hWd] at k7d hB11d hU7d u0 u1 u2 u3 u4 u5 ⊢
              clear hWd
              go_wp2_with fail
              go_meet
              have ks := keeps_three Wd (W6.heap.size + 1) (.int .i64 (wrap64 (g1 + 1))) (.int .i64 h.client) (.slice Au2 h.blk.length cu2)
              have hBn := ((hB11d.set 0 (.int .i64 (wrap64 (g1 + 1)))).set 1 (.int .i64 h.client)).set 2 (.slice Au2 h.blk.length cu2)
              simp only [List.set] at hBn
              have hX6 : ∀ b, X b → b ≠ W6.heap.size + 1 := fun b hb e => by have := hX b hb; omega
              refine ⟨_, _, Au2, cu2, h.blk, hBn, hU7d.keeps ks (fun b e f => hX6 b (hA3b b e) f), hA3b.mono (fun _ => .inl), ok.blk, (k7d.of_none).trans ks, HS2⟩
          | false =>
            have hdf : ∀ (u : Value) (ys : List Int) (W' : World), Keeps None W7 W' → Row .u8 5 W' base u ys → ∀ b, u.ownBlock = some b → b ≠ w5.heap.size ∧ b ≠ W6.heap.size + 1 := fun u ys W' hk hu b e => by
              obtain ⟨cur, hc⟩ := owns_obj hu.raw e
              refine ⟨fun f => ?_, fun f => ?_⟩
              · subst f
                rw [(hk.block _ (Array.getElem?_eq_some_iff.1 hD7).1 id).trans hD7] at hc
                cases hc
              · subst f
                rw [(hB11.grew hk).raw] at hc
                injection hc with hc
                injection hc with _ hc _
                exact absurd hc (by decide)
            have hbsx := HBS.out
            rw [← recsA_val] at hbsx
            have RD : Calls Try.prog 102 #[.pointer (some ⟨g, 0, Option.none⟩), .pointer (some ⟨tg, 0, Option.none⟩), .agg #[.int .i64 g1, .int .i64 g2]] W7 fun e w' => ∃ Ad cd ds, e = .returned (.slice Ad ds.length cd) ∧ Row .u8 5 w' base (.slice Ad ds.length cd) ds ∧
                In (fun b => X b ∨ (w.heap.size ≤ b ∧ b < w'.heap.size)) (.slice Ad ds.length cd) ∧ ds.length ≤ MB ∧ Hid (ds = if (g1, g2) = ((0, 0) : Int × Int) then List.replicate h.size.toNat 0 else dataA ll (g1, g2)) ∧ Keeps None W7 w' := by
              by_cases hz0 : g1 = 0 ∧ g2 = 0
              · obtain ⟨rfl, rfl⟩ := hz0
                obtain ⟨n, hn⟩ : ∃ n : Nat, h.size = (n : Int) := ⟨h.size.toNat, by have := ok.size; omega⟩
                have hsz := ok.size
                rw [hn] at hB7
                refine (read_zero g h.client h.op round h.need h.k0 h.k1 h.k2 h.k3 v false _ n (askV tg) _ W7 hB7 (by omega)).mono ?_
                rintro e W8 ⟨u, rfl, hu, hk8⟩
                obtain ⟨Ad, cd, rfl⟩ := hu.slice
                refine ⟨Ad, cd, _, rfl, hu.down (by omega), fun b e => .inr (by have := hu.lt b e; omega), by unfold MB; rw [List.length_replicate]; omega, Lib.hid (by rw [if_pos rfl, hn]; rfl), hk8⟩
              · refine (read_any g h.client h.op round h.need h.k0 h.k1 h.k2 h.k3 v false _ h.size (askV tg) tg base vg h.grp h.need bm (rs2.map Rec.pair) g1 g2 W7 hB7 hT7 ok.wf ok.grp hz0).mono ?_
                rintro e W8 ⟨bs', hbs', rfl, hk8⟩
                rw [← recsA_val] at hbs'
                have hne : ¬ (g1, g2) = ((0, 0) : Int × Int) := fun e => hz0 (by simpa using e)
                rcases pick_data bs' (recsA h.grp rs2) g1 g2 hbs' with ⟨e1, e2⟩ | ⟨r, hr', Ad, nd, cd, e0, e1, e2⟩
                · rw [e1]
                  exact ⟨Option.none, 0, [], rfl, Row.nil _ _ _ _, In.nil _, by simp, Lib.hid (by rw [if_neg hne, HLL.out, ← recsA_ans, e2]), hk8⟩
                · have hrr := HA3.out.recs r (recsA_mem hr')
                  have hk38 := K7.trans hk8
                  have hrow8 := hrr.1.grew hk38
                  rw [e0] at hrow8
                  have hnd : r.ds.length = nd := (Nums.row hrow8).2.1
                  rw [e1, ← hnd]
                  rw [← hnd] at hrow8
                  have hin := hrr.2.1
                  rw [e0, ← hnd] at hin
                  exact ⟨Ad, cd, r.ds, rfl, hrow8, hin.mono (fun b hb => hb.imp id (fun h => ⟨h.1, Nat.lt_of_lt_of_le h.2 hk38.size⟩)), hrr.2.2, Lib.hid (by rw [if_neg hne, HLL.out, ← recsA_ans, e2]), hk8⟩
            have HDF := Lib.hid hdf
            clear hdf hbsx
            go_wp2_with fail
            refine RD.mono ?_
            rintro e W8 ⟨Ad, cd, ds, rfl, hD8r, hin8, hdl8, HDS, hk8⟩
            clear RD
            obtain ⟨hn1, hn2⟩ : (∀ b, (Value.slice Ad ds.length cd).ownBlock = some b → b ≠ w5.heap.size) ∧ (∀ b, (Value.slice Ad ds.length cd).ownBlock = some b → b ≠ W6.heap.size + 1) := ⟨fun b e => (HDF.out _ _ _ hk8 hD8r b e).1, fun b e => (HDF.out _ _ _ hk8 hD8r b e).2⟩
            have HN1 := Lib.hid hn1
            have HN2 := Lib.hid hn2
            clear hn1 hn2
            have hB8 := hB7.grew hk8
            have hB118 := hB11.grew hk8
            have hS8 := hS7.grew hk8
            have hS108 := hS10.grew hk8
            have hb8 := hb7.grew hk8
            have v2c := hB118.cell 2 _ rfl
            have v2f := hB118.free 2
            have ks : Keeps (One (W6.heap.size + 1)) W8 (W8.setCell ⟨W6.heap.size + 1, 2, Option.none⟩ (.slice Ad ds.length cd)) := (Keeps.refl _ _).setCell _ _ (fun _ => rfl)
            have hB119 := hB118.set 2 (.slice Ad ds.length cd)
            simp only [List.set] at hB119
            have hS109 := hS108.keeps ks (fun e => by simp only [One] at e; omega)
            have hb9 := hb8.keeps ks (fun e => by simp only [One] at e; omega)
            have hSoff : ∀ b o, Al = some ⟨b, o, Option.none⟩ → b ≠ W6.heap.size + 1 := HALB.out
            have hS9 := hS8.keeps ks (fun b o e f => hSoff b o e f)
            have hX6 : ∀ b, X b → b ≠ W6.heap.size + 1 := fun b hb e => by have := hX b hb; omega
            have hg6 : g ≠ W6.heap.size + 1 := by omega
            have hB9 := hB8.keeps ks (fun e => hg6 e)
            have hR9 := (hR7.grew hk8).keeps ks (fun b e f => hX6 b (hA3v b e) f)
            have hU9 := (hU7.grew hk8).keeps ks (fun b e f => hX6 b (hA3b b e) f)
            have hDr9 := hD8r.keeps ks (fun b e f => HN2.out b e f)
            have K9 : Keeps (One (W6.heap.size + 1)) W7 (W8.setCell ⟨W6.heap.size + 1, 2, Option.none⟩ (.slice Ad ds.length cd)) := hk8.of_none.trans ks
            have c79 := hb9.cell 0 _ rfl
            have s10 := hS109.cell 0 _ rfl
            have s11 := hS109.cell 1 _ rfl
            obtain ⟨bu, hbu⟩ : ∃ bu, bu = anyUnlike ls (g1, g2) := ⟨_, rfl⟩
            have HBU := Lib.hid hbu
            clear hSoff hX6
            go_wp2_with fail
            refine (containsfunc_any Al ls.length cl ls g1 g2 W6.heap.size _ hS9 hS109 rfl (by omega)).mono ?_
            rintro e W10 ⟨rfl, hk10⟩
            rw [← HBU.out]
            clear hbu
            have hB10 := hB9.grew hk10
            have hB11x := hB119.grew hk10
            have hS10x := hS109.grew hk10
            have hDr10 := hDr9.grew hk10
            have hR10 := hR9.grew hk10
            have hU10 := hU9.grew hk10
            have K10 := K9.trans hk10.of_none
            have hin10 : In (fun b => X b ∨ (w.heap.size ≤ b ∧ b < W10.heap.size)) (.slice Ad ds.length cd) := hin8.mono (fun b hb => hb.imp id (fun h => ⟨h.1, Nat.lt_of_lt_of_le h.2 (Nat.le_trans ks.size hk10.size)⟩))
            have hbl8 : bestOf (ll.map (·.st)) = (g1, g2) := HGL.out.symm
            have hls8 : ls = ll.map (·.st) := by rw [HLS.out, ← HLL.out]
            cases bu with
            | false =>
              have HS2 : Hid (secondF h round ll = (round, .ended 0 (g1, g2) ds, .no)) := Lib.hid (by
                have hu := HBU.out
                rw [hls8] at hu
                unfold secondF
                rw [hbl8]
                simp only [← HBW.out, ← hu]
                simp [HDS.out])
              clear hbl8 hls8
              have x0 := hS10x.cell 0 _ rfl
              have x1 := hS10x.cell 1 _ rfl
              have x2 := hB11x.cell 2 _ rfl
              go_wp2_with fail
              refine (end_any g h.client h.op round h.need h.k0 h.k1 h.k2 h.k3 v false _ h.size (askV tg) 0 (g1, g2) Ad ds.length cd W10 hB10).mono ?_
              rintro e W11 ⟨rfl, hB12, hk11⟩
              have hgX : ∀ b, X b → b ≠ g := fun b hb e => hg.1 (e ▸ hb)
              have hD10 : W10.heap[w5.heap.size]? = some (.deferred (some [])) := (K10.block _ (Array.getElem?_eq_some_iff.1 hD7).1 (fun e => by simp only [One] at e; omega)).trans hD7
              have hD11 := (hk11.block _ (Array.getElem?_eq_some_iff.1 hD10).1 (fun e => hgB e)).trans hD10
              have hk08 : Keeps (fun k => X k ∨ k = g) w W11 := ((hkX.trans K7.of_none).andThen K10 (fun i hi e => by simp only [One] at e; exfalso; omega)).trans (hk11.mono (fun _ _ e => .inr e))
              rw [HBW.out] at hB12
              have hin11 : In (fun b => (X b ∨ (w.heap.size ≤ b ∧ b < W11.heap.size)) ∧ b ≠ w5.heap.size) (.slice Ad ds.length cd) := fun b e => ⟨(hin10 b e).imp id (fun h => ⟨h.1, Nat.lt_of_lt_of_le h.2 hk11.size⟩), HN1.out b e⟩
              have hgd : ∀ b, (Value.slice Ad ds.length cd).ownBlock = some b → b ≠ g := fun b e f => by
                rcases hin10 b e with h1 | h1
                · exact hgX b h1 f
                · omega
              have hfin := fin_put (B0 := w5.heap.size) hg hgl hX ok hB12 (hR10.keeps hk11 (fun b e f => hgX b (hA3v b e) f)) hA3v (hU10.keeps hk11 (fun b e f => hgX b (hA3b b e) f)) hA3b (hDr10.keeps hk11 (fun b e f => hgd b e f)) hin11 hdl8 hk08 (by omega)
              have HFIN := Lib.hid hfin
              clear hfin hgX hk08 hgd hin11
              go_wp2_with fail
              refine ⟨by simp, .inl ⟨_, _, rfl, run_takeDeferred hD11, ?_⟩⟩
              refine ⟨_, results_tmp rfl _ _ _, ?_⟩
              have e9 := ea.out
              rw [← HLL.out, HS2.out] at e9
              rw [e9]
              exact HFIN.out
            | true =>
              have HS2 : Hid (secondF h round ll = if 1099511627776 ≤ round then (round, .ended 4 (0, 0) [], .no) else (round + 1, .laying [] (g1, g2) ds, .msgs 2 (round + 1) (g1, g2) ds h.grp)) := Lib.hid (by
                have hu := HBU.out
                rw [hls8] at hu
                unfold secondF
                rw [hbl8]
                simp only [← HBW.out, ← hu]
                simp [HDS.out])
              clear hbl8 hls8
              go_wp2_with fail
              go_meet
              exact ⟨g1, g2, Ad, cd, ds, hB11x, hDr10, hin10, hdl8, K10, HS2⟩
        case rest =>
          obtain ⟨t1, t2, Ad, cd, ds, hBk, hDr, hin, hdl, hKc, HS⟩ := hcut
          rw [HBW.out] at hB7
          have hgX : ∀ b, X b → b ≠ g := fun b hb e => hg.1 (e ▸ hb)
          have hX6 : ∀ b, X b → b ≠ W6.heap.size + 1 := fun b hb e => by have := hX b hb; omega
          have hg6 : g ≠ W6.heap.size + 1 := by omega
          have hBc := hB7.keeps hKc (fun e => hg6 e)
          have hRc := hR7.keeps hKc (fun b e f => hX6 b (hA3v b e) f)
          have hUc := hU7.keeps hKc (fun b e f => hX6 b (hA3b b e) f)
          have hDc : wc.heap[w5.heap.size]? = some (.deferred (some [])) := (hKc.block _ (Array.getElem?_eq_some_iff.1 hD7).1 (fun e => by simp only [One] at e; omega)).trans hD7
          have hk0c : Keeps (fun k => X k ∨ k = g) w wc := (hkX.trans K7.of_none).andThen hKc (fun i hi e => by simp only [One] at e; exfalso; omega)
          have hsc := hKc.size
          have r2 := hBc.cell 2 _ rfl
          clear hB7 hR7 hU7 hT7 hP7 hS7 hb7 hD7 hS10 hB11 n0 n9 n10 s0 s1' p7 hKc
          by_cases hr2 : 1099511627776 ≤ round
          · have ed : decide (round ≥ 1099511627776) = true := decide_eq_true hr2
            have HS2 : Hid (secondF h round ll = (round, .ended 4 (0, 0) [], .no)) := Lib.hid (by rw [HS.out, if_pos hr2])
            clear hr2
            go_wp2_with fail
            refine (end_any g h.client h.op round h.need h.k0 h.k1 h.k2 h.k3 v h.wr _ h.size (askV tg) 4 (0, 0) Option.none 0 0 wc hBc).mono ?_
            rintro e W8 ⟨rfl, hB8, hk8⟩
            have hD8 := (hk8.block _ (Array.getElem?_eq_some_iff.1 hDc).1 (fun e => hgB e)).trans hDc
            have hk08 : Keeps (fun k => X k ∨ k = g) w W8 := hk0c.trans (hk8.mono (fun _ _ e => .inr e))
            have hfin := fin_put (B0 := w5.heap.size) hg hgl hX ok hB8 (hRc.keeps hk8 (fun b e f => hgX b (hA3v b e) f)) hA3v (hUc.keeps hk8 (fun b e f => hgX b (hA3b b e) f)) hA3b (Row.nil _ _ _ _) (In.nil _) (by simp) hk08 (by omega)
            have HFIN := Lib.hid hfin
            clear hfin hgX hk08
            go_wp2_with fail
            refine ⟨by simp, .inl ⟨_, _, rfl, run_takeDeferred hD8, ?_⟩⟩
            refine ⟨_, results_tmp rfl _ _ _, ?_⟩
            have e9 := ea.out
            rw [← HLL.out, HS2.out] at e9
            rw [e9]
            exact HFIN.out
          · have ed : decide (round ≥ 1099511627776) = false := decide_eq_false hr2
            have HS2 : Hid (secondF h round ll = (round + 1, .laying [] (t1, t2) ds, .msgs 2 (round + 1) (t1, t2) ds h.grp)) := Lib.hid (by rw [HS.out, if_neg hr2])
            have hwr : IntKind.i64.wrap (round + 1) = round + 1 := by rw [IntKind.wrap_i64]; omega
            have f2 := hBc.free 2
            have ks : Keeps (One g) wc (wc.setCell ⟨g, 2, Option.none⟩ (.int .i64 (round + 1))) := (Keeps.refl _ _).setCell _ _ (fun _ => rfl)
            have hB9 := hBc.set 2 (.int .i64 (round + 1))
            simp only [mcells, List.set] at hB9
            have hBk9 := hBk.keeps ks (fun e => hg6 (by simp only [One] at e; exact e.symm))
            have hR9 := hRc.keeps ks (fun b e f => hgX b (hA3v b e) f)
            have hU9 := hUc.keeps ks (fun b e f => hgX b (hA3b b e) f)
            have hgd : ∀ b, (Value.slice Ad ds.length cd).ownBlock = some b → b ≠ g := fun b e f => by
              rcases hin b e with h1 | h1
              · exact hgX b h1 f
              · omega
            have hDr9 := hDr.keeps ks (fun b e f => hgd b e f)
            have hD9 : (wc.setCell ⟨g, 2, Option.none⟩ (.int .i64 (round + 1))).heap[w5.heap.size]? = some (.deferred (some [])) := (ks.block _ (Array.getElem?_eq_some_iff.1 hDc).1 (fun e => hgB e)).trans hDc
            have hk09 : Keeps (fun k => X k ∨ k = g) w (wc.setCell ⟨g, 2, Option.none⟩ (.int .i64 (round + 1))) := hk0c.trans (ks.mono (fun _ _ e => .inr e))
            have hs9 : (wc.setCell ⟨g, 2, Option.none⟩ (.int .i64 (round + 1))).heap.size = wc.heap.size := by simp [World.setCell]
            have HR2 := Lib.hid hr2
            clear hgd hr2
            go_upto_region 19 with (fail)
            obtain ⟨W9, hW9⟩ : ∃ W9, W9 = wc.setCell ⟨g, 2, Option.none⟩ (.int .i64 (round + 1)) := ⟨_, rfl⟩
            rw [← hW9] at hB9 hBk9 hR9 hU9 hDr9 hD9 hk09 hs9 ks ⊢
            clear hW9 ks hBc hRc hUc hDr hDc hk0c hBk r2 f2
            have r3 := hB9.cell 3 _ rfl
            obtain ⟨Ag, cg, ev⟩ : ∃ A c, v = .slice A h.grp.length c := hR9.slice
            subst ev
            have r8 := hB9.cell 8 _ rfl
            have hNg := (Nums.row hR9).1
            have d0 := hBk9.cell 0 _ rfl
            have d1 := hBk9.cell 1 _ rfl
            have d2 := hBk9.cell 2 _ rfl
            have hin9 : In (fun b => X b ∨ (w.heap.size ≤ b ∧ b < W9.heap.size)) (.slice Ad ds.length cd) := hin.mono (fun b hb => hb.imp id (fun h => ⟨h.1, by omega⟩))
            have hs09 := hk09.size
            have hDf : ∀ b, (Value.slice Ad ds.length cd).ownBlock = some b → b ≠ w5.heap.size := fun b e f => by
              obtain ⟨cur, hc⟩ := owns_obj hDr9.raw e
              subst f
              rw [hD9] at hc
              cases hc
            have HDf := Lib.hid hDf
            have HHX := Lib.hid hgX
            clear hDf hin hgX hX6
            refine start_ (ds := [15]) (S := (fun w' => Keeps None W9 w')) #[false, false, false, false, false, false, false, false, false, false, false, false, false, false, false, false] (by kernel_rfl) rfl rfl ((Keeps.refl _ _).drew) (fun hS0 => ?_)
            refine pure_ (i := 0) (N := some 106) (v := .pointer (some ⟨g, 0, Option.none⟩)) #[true, false, false, false, false, false, false, false, false, false, false, false, false, false, false, false] rfl rfl (by kernel_rfl) (fun _ _ _ h => h) (Or.inl ⟨wanted_none rfl, fun w => by rfl⟩) rfl ?_
            try simp only [Act.put, List.setIfInBounds_toArray, List.set_cons_zero, List.set_cons_succ]
            refine pure_ (i := 1) (N := some 107) (v := .pointer (some ⟨g, 0, Option.none⟩)) #[true, true, false, false, false, false, false, false, false, false, false, false, false, false, false, false] rfl rfl (by kernel_rfl) (fun _ _ _ h => h) (Or.inl ⟨wanted_none rfl, fun w => by rfl⟩) rfl ?_
            try simp only [Act.put, List.setIfInBounds_toArray, List.set_cons_zero, List.set_cons_succ]
            refine pure_ (i := 2) (N := some 108) (v := .pointer (some ⟨g, 0, Option.none⟩)) #[true, true, true, false, false, false, false, false, false, false, false, false, false, false, false, false] rfl rfl (by kernel_rfl) (fun _ _ _ h => h) (Or.inl ⟨wanted_none rfl, fun w => by go_simp⟩) rfl ?_
            try simp only [Act.put, List.setIfInBounds_toArray, List.set_cons_zero, List.set_cons_succ]
            refine pure_ (i := 3) (N := some 109) (v := .pointer (some ⟨g, 8, Option.none⟩)) #[true, true, true, true, false, false, false, false, false, false, false, false, false, false, false, false] rfl rfl (by kernel_rfl) (fun _ _ _ h => h) (Or.inl ⟨wanted_none rfl, fun w => by go_simp⟩) rfl ?_
            try simp only [Act.put, List.setIfInBounds_toArray, List.set_cons_zero, List.set_cons_succ]
            refine take_ (i := 4) (N := some 110) (v := .slice Ag h.grp.length cg) #[true, true, true, true, true, false, false, false, false, false, false, false, false, false, false, false] rfl rfl (by kernel_rfl) (fun _ _ _ h => h) (Or.inl ⟨wanted_none rfl, by intro w' hSw; have q := hSw.cell r8 id; go_simp⟩) hS0 rfl ?_
            try simp only [Act.put, List.setIfInBounds_toArray, List.set_cons_zero, List.set_cons_succ]
            refine pure_ (i := 5) (N := some 111) (v := .pointer (some ⟨g, 0, Option.none⟩)) #[true, true, true, true, true, true, false, false, false, false, false, false, false, false, false, false] rfl rfl (by kernel_rfl) (fun _ _ _ h => h) (Or.inl ⟨wanted_none rfl, fun w => by rfl⟩) rfl ?_
            try simp only [Act.put, List.setIfInBounds_toArray, List.set_cons_zero, List.set_cons_succ]
            refine pure_ (i := 6) (N := some 112) (v := .pointer (some ⟨g, 0, Option.none⟩)) #[true, true, true, true, true, true, true, false, false, false, false, false, false, false, false, false] rfl rfl (by kernel_rfl) (fun _ _ _ h => h) (Or.inl ⟨wanted_none rfl, fun w => by go_simp⟩) rfl ?_
            try simp only [Act.put, List.setIfInBounds_toArray, List.set_cons_zero, List.set_cons_succ]
            refine pure_ (i := 7) (N := some 113) (v := .pointer (some ⟨g, 3, Option.none⟩)) #[true, true, true, true, true, true, true, true, false, false, false, false, false, false, false, false] rfl rfl (by kernel_rfl) (fun _ _ _ h => h) (Or.inl ⟨wanted_none rfl, fun w => by go_simp⟩) rfl ?_
            try simp only [Act.put, List.setIfInBounds_toArray, List.set_cons_zero, List.set_cons_succ]
            refine take_ (i := 8) (N := some 114) (v := .int .i64 h.need) #[true, true, true, true, true, true, true, true, true, false, false, false, false, false, false, false] rfl rfl (by kernel_rfl) (fun _ _ _ h => h) (Or.inl ⟨wanted_none rfl, by intro w' hSw; have q := hSw.cell r3 id; go_simp⟩) hS0 rfl ?_
            try simp only [Act.put, List.setIfInBounds_toArray, List.set_cons_zero, List.set_cons_succ]
            refine take_ (i := 10) (N := some 116) (v := .agg #[.int .i64 t1, .int .i64 t2, .slice Ad ds.length cd]) #[true, true, true, true, true, true, true, true, true, false, true, false, false, false, false, false] rfl rfl (by kernel_rfl) (fun _ _ _ h => h) (Or.inl ⟨wanted_none rfl, by intro w' hSw; have q0 := hSw.cell d0 id; have q1 := hSw.cell d1 id; have q2 := hSw.cell d2 id; go_simp⟩) hS0 rfl ?_
            try simp only [Act.put, List.setIfInBounds_toArray, List.set_cons_zero, List.set_cons_succ]
            refine one_ (i := 9) (oi := ({ dst := some 115, op := Op.call { callee := Callee.value (Operand.func 90), args := #[Operand.tmp 110, Operand.tmp 114], argTypes := #[52, 3] }, type := 159, pos := "register.go:160", after := #[{ on := 4, ground := Ground.data }, { on := 8, ground := Ground.data }], guard := Option.none } : Oper)) (N := some 115) #[true, true, true, true, true, true, true, true, true, true, true, false, false, false, false, false] rfl rfl (by kernel_rfl) (by decide) ?_
            intro KK hKK
            refine goes_ Try.func90 (by kernel_rfl) rfl #[.slice Ag h.grp.length cg, .int .i64 h.need] (wanted_none rfl) rfl rfl (by simp [Act.eval]) ?_
            refine (TB.new_any Ag h.grp.length cg h.grp h.need _ (hNg.grew hS0) rfl (by have := ok.grp; omega)).mono ?_
            rintro e w2' ⟨vg2, rfl, hTn, hk2'⟩
            have hB2' := hB9.grew (hS0.trans hk2')
            have kW2 := (hS0.trans hk2')
            obtain ⟨tg2, htg⟩ : ∃ tg2, tg2 = W9.drew.heap.size + 1 := ⟨_, rfl⟩
            obtain ⟨bm2, hbm⟩ : ∃ bm2, bm2 = W9.drew.heap.size := ⟨_, rfl⟩
            rw [← htg, ← hbm] at hTn
            rw [← htg]
            refine ⟨_, rfl, hKK.out _ _ (hS0.trans hk2') (fun hS1 => ?_)⟩
            try simp only [Act.put, List.setIfInBounds_toArray, List.set_cons_zero, List.set_cons_succ]
            refine pure_ (i := 11) (N := some 117) (v := .agg #[.pointer (some ⟨tg2, 0, Option.none⟩), .int .i64 t1, .int .i64 t2, .slice Ad ds.length cd]) #[true, true, true, true, true, true, true, true, true, true, true, true, false, false, false, false] rfl rfl (by kernel_rfl) (fun _ _ _ h => h) (Or.inl ⟨wanted_none rfl, fun w => by go_simp⟩) rfl ?_
            try simp only [Act.put, List.setIfInBounds_toArray, List.set_cons_zero, List.set_cons_succ]
            refine pure_ (i := 12) (N := some 118) (v := .iface 183 (.agg #[.pointer (some ⟨tg2, 0, Option.none⟩), .int .i64 t1, .int .i64 t2, .slice Ad ds.length cd])) #[true, true, true, true, true, true, true, true, true, true, true, true, true, false, false, false] rfl rfl (by kernel_rfl) (fun _ _ _ h => h) (Or.inl ⟨wanted_none rfl, fun w => by go_simp⟩) rfl ?_
            try simp only [Act.put, List.setIfInBounds_toArray, List.set_cons_zero, List.set_cons_succ]
            refine pure_ (i := 13) (N := some 119) (v := .pointer (some ⟨g, 0, Option.none⟩)) #[true, true, true, true, true, true, true, true, true, true, true, true, true, true, false, false] rfl rfl (by kernel_rfl) (fun _ _ _ h => h) (Or.inl ⟨wanted_none rfl, fun w => by go_simp⟩) rfl ?_
            try simp only [Act.put, List.setIfInBounds_toArray, List.set_cons_zero, List.set_cons_succ]
            refine pure_ (i := 14) (N := some 120) (v := .pointer (some ⟨g, 12, Option.none⟩)) #[true, true, true, true, true, true, true, true, true, true, true, true, true, true, true, false] rfl rfl (by kernel_rfl) (fun _ _ _ h => h) (Or.inl ⟨wanted_none rfl, fun w => by go_simp⟩) rfl ?_
            try simp only [Act.put, List.setIfInBounds_toArray, List.set_cons_zero, List.set_cons_succ]
            have g12 := hB2'.cell 12 _ rfl
            have f12 := hB2'.free 12
            refine last_ (i := 15) (oi := ({ dst := Option.none, op := Op.store 107 (Operand.tmp 120) (Operand.tmp 118), type := 0, pos := "register.go:160", after := #[{ on := 14, ground := Ground.data }, { on := 12, ground := Ground.data }, { on := 9, ground := Ground.chain }, { on := 0, ground := Ground.phase }, { on := 1, ground := Ground.phase }, { on := 2, ground := Ground.phase }, { on := 3, ground := Ground.phase }, { on := 4, ground := Ground.phase }, { on := 5, ground := Ground.phase }, { on := 6, ground := Ground.phase }, { on := 7, ground := Ground.phase }, { on := 8, ground := Ground.phase }, { on := 9, ground := Ground.phase }, { on := 10, ground := Ground.phase }, { on := 11, ground := Ground.phase }, { on := 12, ground := Ground.phase }], guard := Option.none } : Oper)) (N := Option.none) #[true, true, true, true, true, true, true, true, true, true, true, true, true, true, true, true] rfl rfl (by kernel_rfl) (by decide) ?_
            intro KK hKK
            refine skip_ (wanted_none rfl) rfl (w1 := w2'.setCell ⟨g, 12, Option.none⟩ (.iface 183 (.agg #[.pointer (some ⟨tg2, 0, Option.none⟩), .int .i64 t1, .int .i64 t2, .slice Ad ds.length cd]))) (by go_simp) (hKK.out _ _ ?_)
            try simp only [Act.put, List.setIfInBounds_toArray, List.set_cons_zero, List.set_cons_succ]
            refine done_ (by kernel_rfl) ?_
            have hB3' := hB2'.set 12 (layV tg2 (t1, t2) (.slice Ad ds.length cd))
            simp only [List.set, layV] at hB3'
            have ks' : Keeps (One g) w2' (w2'.setCell ⟨g, 12, Option.none⟩ (.iface 183 (.agg #[.pointer (some ⟨tg2, 0, Option.none⟩), .int .i64 t1, .int .i64 t2, .slice Ad ds.length cd]))) := (Keeps.refl _ _).setCell _ _ (fun _ => rfl)
            have hW9d : W9.drew.heap.size = W9.heap.size := rfl
            have hvl2 := fun b (e : vg2.ownBlock = some b) => hTn.row.lt b e
            have hgs : g < W9.heap.size := by omega
            have hT3 := hTn.keeps ks' (fun e => by simp only [One] at e; omega) (fun e => by simp only [One] at e; omega) (fun b e f => by simp only [One] at f; have := (hvl2 b e).1; omega)
            obtain ⟨W10, hW10⟩ : ∃ W10, W10 = w2'.setCell ⟨g, 12, Option.none⟩ (.iface 183 (.agg #[.pointer (some ⟨tg2, 0, Option.none⟩), .int .i64 t1, .int .i64 t2, .slice Ad ds.length cd])) := ⟨_, rfl⟩
            rw [← hW10] at hB3' ks' hT3 ⊢
            clear hW10
            have kk := kW2.of_none.trans ks'
            have m12 := hB3'.cell 12 _ rfl
            have m8 := hB3'.cell 8 _ rfl
            clear g12 f12 r3 r8 d0 d1 d2 hB2'
            have HT3 := Lib.hid hT3
            have HBM := Lib.hid hbm
            have HTG := Lib.hid htg
            clear hT3 hTn hbm htg
            go_wp2_with fail
            go_still_tail 11, (by kernel_rfl)
            change wpList _ _ _ _ _ W10.drew
            have kd : Keeps None W10 W10.drew := (Keeps.refl None W10).drew
            have hB4' := hB3'.grew kd
            have hT4 := Lib.hid (HT3.out.grew kd)
            have kq := kk.trans (kd.of_none (S := One g))
            obtain ⟨wq, hwq⟩ : ∃ wq, wq = W10.drew := ⟨_, rfl⟩
            rw [← hwq] at kd hB4' hT4 kq ⊢
            clear hwq m12 m8
            have hX9 : ∀ b, X b → b ≠ g := HHX.out
            have hRq := hR9.keeps kq (fun b e f => hX9 b (hA3v b e) f)
            have hUq := hU9.keeps kq (fun b e f => hX9 b (hA3b b e) f)
            have hgd : ∀ b, (Value.slice Ad ds.length cd).ownBlock = some b → b ≠ g := fun b e f => by
              rcases hin9 b e with h1 | h1
              · exact hX9 b h1 f
              · omega
            have hDq := hDr9.keeps kq (fun b e f => hgd b e f)
            have hDqq : wq.heap[w5.heap.size]? = some (.deferred (some [])) := (kq.block _ (Array.getElem?_eq_some_iff.1 hD9).1 (fun e => hgB e)).trans hD9
            have hNq := (Nums.row hRq).1
            have hNd := (Nums.row hDq).1
            have HGD := Lib.hid hgd
            clear hX9 hgd
            go_wp2_with fail
            refine (ask2_any tg2 t1 t2 Ad cd ds g h.client h.op (round + 1) h.need h.k0 h.k1 h.k2 h.k3 (.slice Ag h.grp.length cg) h.wr _ h.size _ Ag cg h.grp wq hB4' hNq hgrp hNd (by unfold MB at hdl; exact hdl)).mono ?_
            rintro e w8' ⟨u, ms, rfl, hMR, hk8'⟩
            have hD8 : w8'.heap[w5.heap.size]? = some (.deferred (some [])) := (hk8'.block _ (Array.getElem?_eq_some_iff.1 hDqq).1 id).trans hDqq
            go_wp2_with fail
            refine ⟨by simp, .inl ⟨_, _, rfl, run_takeDeferred hD8, ?_⟩⟩
            refine ⟨_, results_tmp rfl _ _ _, ?_⟩
            have e9 := ea.out
            rw [← HLL.out, HS2.out] at e9
            rw [e9]
            have kp : Keeps (One w5.heap.size) w8' (w8'.putObj w5.heap.size (.deferred Option.none)) := keeps_putObj _ _ _
            have hps : (w8'.putObj w5.heap.size (.deferred Option.none)).heap.size = w8'.heap.size := by simp [World.putObj]
            have hbm := HBM.out
            have htg := HTG.out
            have hq8 := hk8'.size
            have hqs := kq.size
            have h52 := (Array.getElem?_eq_some_iff.1 hD9).1
            have hlt4 := hT4.out.lt
            have hvl4 := fun b (e : vg2.ownBlock = some b) => hT4.out.row.lt b e
            have hXB : ∀ b, X b → b ≠ w5.heap.size := fun b hb e => by have := hX b hb; omega
            have hT5 := ((hT4.out.grew hk8').keeps kp (fun e => by simp only [One] at e; omega) (fun e => by simp only [One] at e; omega) (fun b e f => by simp only [One] at f; have := (hvl4 b e).1; omega)).down (base' := base) (by omega)
            rw [ok.nd] at hT5
            have hB5 := (hB4'.grew hk8').keeps kp (fun e => hgB (by simp only [One] at e; exact e.symm))
            have hR5 := (hRq.grew hk8').keeps kp (fun b e f => hXB b (hA3v b e) f)
            have hU5 := (hUq.grew hk8').keeps kp (fun b e f => hXB b (hA3b b e) f)
            have hD5 := (hDq.grew hk8').keeps kp (fun b e f => HDf.out b e f)
            have hM5 := hMR.keeps kp (fun b hb _ e => by simp only [One] at e; omega)
            have hkf : Keeps (fun k => X k ∨ k = g) w (w8'.putObj w5.heap.size (.deferred Option.none)) :=
              ((hk09.trans (kq.mono (fun _ _ e => .inr e))).trans hk8'.of_none).andThen kp (fun i hi e => by simp only [One] at e; exfalso; omega)
            refine ⟨fun b => X b ∨ (w.heap.size ≤ b ∧ b < wq.heap.size), wq.heap.size, u, rfl, ⟨⟨_, _, _, hB5, hR5, hA3v.mono (fun _ => .inl), hU5, hA3b.mono (fun _ => .inl), ⟨tg2, vg2, bm2, _, rfl, hT5, hD5, hin9.mono (fun b hb => hb.imp id (fun h => ⟨h.1, by omega⟩)), hdl, .inr (by omega), .inr (by omega), (fun b e => .inr (by have := hvl4 b e; omega)), by omega, by have := HR2.out; omega, by unfold Hd.need; show ((0 : Nat) : Int) ≤ _; omega⟩⟩, ⟨?_, hg.2⟩, ?_, ok⟩, ⟨ms, hM5⟩, fun _ => .inl, ?_, ?_, by omega, hkf⟩
            · rintro (e | e)
              · exact hg.1 e
              · omega
            · rintro b (e | e)
              · have := hX b e; omega
              · omega
            · rintro b (e | e)
              · exact .inl e
              · exact .inr e.1
            · rintro b (e | e)
              · have := hX b e; omega
              · exact e.2
  · have ea : askF h round (rs.map Rec.ans) kind fi (s1, s2) zs = (round, .asking (rs.map Rec.ans), .no) := by simp [askF, hkind]
    rw [ea]
    have tk : (kind != 11) = true := by simpa using hkind
    have hfin : Mach W base (fun b => X b ∨ (w.heap.size ≤ b ∧ b < W.heap.size)) g h round (.asking (rs.map Rec.ans)) := (asked_parts hg hB hR hv hU hbl hxb hgl hrs hmap kW.of_none (hT.grew kW) (fun r h => .inl h)).mach hg hgl hX ok hxt hxb hvg hr (by omega) hlen
    have HF := Lib.hid hfin
    clear ea hfin hkind
    go_enter Try.func97, Try.ntmps97
    go_wp2_with fail
    rw [← hW]
    clear hW
    refine start_ (ds := []) (S := (fun w' => Keeps None W w')) #[false, false, false, false, false, false, false, false, false, false, false, false, false, false, false, false, false, false] (by kernel_rfl) rfl rfl ((Keeps.refl _ _).drew) (fun hS0 => ?_)
    refine pure_ (i := 0) (N := some 12) (v := .pointer (some ⟨w.heap.size + 1, 0, Option.none⟩)) #[true, false, false, false, false, false, false, false, false, false, false, false, false, false, false, false, false, false] rfl rfl (by kernel_rfl) (fun _ _ _ h => h) (Or.inl ⟨wanted_none rfl, fun w => by go_simp⟩) rfl ?_
    try simp only [Act.put, List.setIfInBounds_toArray, List.set_cons_zero, List.set_cons_succ]
    refine take_ (i := 1) (N := some 13) (v := .int .i64 kind) #[true, true, false, false, false, false, false, false, false, false, false, false, false, false, false, false, false, false] rfl rfl (by kernel_rfl) (fun _ _ _ h => h) (Or.inl ⟨wanted_none rfl, by intro w' hSw; have q := hSw.cell m0 id; go_simp⟩) hS0 rfl ?_
    try simp only [Act.put, List.setIfInBounds_toArray, List.set_cons_zero, List.set_cons_succ]
    refine pure_ (i := 2) (N := some 14) (v := .bool true) #[true, true, true, false, false, false, false, false, false, false, false, false, false, false, false, false, false, false] rfl rfl (by kernel_rfl) (fun _ _ _ h => h) (Or.inl ⟨wanted_none rfl, fun w => by go_simp⟩) rfl ?_
    try simp only [Act.put, List.setIfInBounds_toArray, List.set_cons_zero, List.set_cons_succ]
    refine pure_ (i := 3) (N := some 15) (v := .bool true) #[true, true, true, true, false, false, false, false, false, false, false, false, false, false, false, false, false, false] rfl rfl (by kernel_rfl) (fun _ _ _ h => h) (Or.inl ⟨wanted_none rfl, fun w => by rfl⟩) rfl ?_
    try simp only [Act.put, List.setIfInBounds_toArray, List.set_cons_zero, List.set_cons_succ]
    refine pure_ (i := 4) (N := some 16) (v := undef) #[true, true, true, true, true, false, false, false, false, false, false, false, false, false, false, false, false, false] rfl rfl (by kernel_rfl) (fun _ _ _ h => h) (Or.inr ⟨by rfl, rfl⟩) rfl ?_
    try simp only [Act.put, List.setIfInBounds_toArray, List.set_cons_zero, List.set_cons_succ]
    refine pure_ (i := 5) (N := some 17) (v := undef) #[true, true, true, true, true, true, false, false, false, false, false, false, false, false, false, false, false, false] rfl rfl (by kernel_rfl) (fun _ _ _ h => h) (Or.inr ⟨by rfl, rfl⟩) rfl ?_
    try simp only [Act.put, List.setIfInBounds_toArray, List.set_cons_zero, List.set_cons_succ]
    refine pure_ (i := 6) (N := some 18) (v := undef) #[true, true, true, true, true, true, true, false, false, false, false, false, false, false, false, false, false, false] rfl rfl (by kernel_rfl) (fun _ _ _ h => h) (Or.inr ⟨by rfl, rfl⟩) rfl ?_
    try simp only [Act.put, List.setIfInBounds_toArray, List.set_cons_zero, List.set_cons_succ]
    refine pure_ (i := 7) (N := some 19) (v := undef) #[true, true, true, true, true, true, true, true, false, false, false, false, false, false, false, false, false, false] rfl rfl (by kernel_rfl) (fun _ _ _ h => h) (Or.inr ⟨by rfl, rfl⟩) rfl ?_
    try simp only [Act.put, List.setIfInBounds_toArray, List.set_cons_zero, List.set_cons_succ]
    refine pure_ (i := 8) (N := some 20) (v := undef) #[true, true, true, true, true, true, true, true, true, false, false, false, false, false, false, false, false, false] rfl rfl (by kernel_rfl) (fun _ _ _ h => h) (Or.inr ⟨by rfl, rfl⟩) rfl ?_
    try simp only [Act.put, List.setIfInBounds_toArray, List.set_cons_zero, List.set_cons_succ]
    refine pure_ (i := 9) (N := some 21) (v := undef) #[true, true, true, true, true, true, true, true, true, true, false, false, false, false, false, false, false, false] rfl rfl (by kernel_rfl) (fun _ _ _ h => h) (Or.inr ⟨by rfl, rfl⟩) rfl ?_
    try simp only [Act.put, List.setIfInBounds_toArray, List.set_cons_zero, List.set_cons_succ]
    refine pure_ (i := 10) (N := some 22) (v := undef) #[true, true, true, true, true, true, true, true, true, true, true, false, false, false, false, false, false, false] rfl rfl (by kernel_rfl) (fun _ _ _ h => h) (Or.inr ⟨by rfl, rfl⟩) rfl ?_
    try simp only [Act.put, List.setIfInBounds_toArray, List.set_cons_zero, List.set_cons_succ]
    refine pure_ (i := 11) (N := some 23) (v := undef) #[true, true, true, true, true, true, true, true, true, true, true, true, false, false, false, false, false, false] rfl rfl (by kernel_rfl) (fun _ _ _ h => h) (Or.inr ⟨by rfl, rfl⟩) rfl ?_
    try simp only [Act.put, List.setIfInBounds_toArray, List.set_cons_zero, List.set_cons_succ]
    refine pure_ (i := 12) (N := some 24) (v := undef) #[true, true, true, true, true, true, true, true, true, true, true, true, true, false, false, false, false, false] rfl rfl (by kernel_rfl) (fun _ _ _ h => h) (Or.inr ⟨by rfl, rfl⟩) rfl ?_
    try simp only [Act.put, List.setIfInBounds_toArray, List.set_cons_zero, List.set_cons_succ]
    refine pure_ (i := 13) (N := some 25) (v := undef) #[true, true, true, true, true, true, true, true, true, true, true, true, true, true, false, false, false, false] rfl rfl (by kernel_rfl) (fun _ _ _ h => h) (Or.inr ⟨by rfl, rfl⟩) rfl ?_
    try simp only [Act.put, List.setIfInBounds_toArray, List.set_cons_zero, List.set_cons_succ]
    refine pure_ (i := 14) (N := some 26) (v := undef) #[true, true, true, true, true, true, true, true, true, true, true, true, true, true, true, false, false, false] rfl rfl (by kernel_rfl) (fun _ _ _ h => h) (Or.inr ⟨by rfl, rfl⟩) rfl ?_
    try simp only [Act.put, List.setIfInBounds_toArray, List.set_cons_zero, List.set_cons_succ]
    refine pure_ (i := 15) (N := some 27) (v := undef) #[true, true, true, true, true, true, true, true, true, true, true, true, true, true, true, true, false, false] rfl rfl (by kernel_rfl) (fun _ _ _ h => h) (Or.inr ⟨by rfl, rfl⟩) rfl ?_
    try simp only [Act.put, List.setIfInBounds_toArray, List.set_cons_zero, List.set_cons_succ]
    refine pure_ (i := 16) (N := some 28) (v := undef) #[true, true, true, true, true, true, true, true, true, true, true, true, true, true, true, true, true, false] rfl rfl (by kernel_rfl) (fun _ _ _ h => h) (Or.inr ⟨by rfl, rfl⟩) rfl ?_
    try simp only [Act.put, List.setIfInBounds_toArray, List.set_cons_zero, List.set_cons_succ]
    refine pure_ (i := 17) (N := some 29) (v := .bool true) #[true, true, true, true, true, true, true, true, true, true, true, true, true, true, true, true, true, true] rfl rfl (by kernel_rfl) (fun _ _ _ h => h) (Or.inl ⟨wanted_none rfl, fun w => by go_simp⟩) rfl ?_
    try simp only [Act.put, List.setIfInBounds_toArray, List.set_cons_zero, List.set_cons_succ]
    refine done_ (by kernel_rfl) ?_
    go_wp2_with fail
    go_ret
    refine ⟨_, W.heap.size, _, rfl, HF.out.grew (Keeps.refl None W).drew, rfl, fun _ => .inl, ?_, ?_, by omega, (kW.trans (Keeps.refl None W).drew).of_none⟩
    · rintro b (e | e)
      · exact .inl e
      · exact .inr e.1
    · rintro b (e | e)
      · have := hX b e; omega
      · exact e.2
end Go.Proofs.Ytcihfjfbcfgidaa
