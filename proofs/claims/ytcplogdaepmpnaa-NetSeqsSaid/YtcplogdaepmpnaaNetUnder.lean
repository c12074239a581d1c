/- What is under way, as a sequence. -/
import Derived.Test.YtcplogdaepmpnaaNetMore
import Derived.Test.YtcplogdaepmpnaaRangeGood
namespace Go.Proofs.Ytcplogdaepmpnaa
open Go.RowKit Go.Maps Go.ChangeMaps Go.WideElems

attribute [local go_sem] Oper.semAt_some

/-- A packet without the place of its bytes. -/
def core (x : Pk × List Int) : Ad × Int × Ad × List Int := (x.1.fr, x.1.ct, x.1.to, x.2)

set_option maxRecDepth 100000 in
set_option maxHeartbeats 1600000 in
theorem clonepk_any (base : Nat) (A : Option Addr) (c : Nat) (L : Way) (w : World) (hrow : w.ownsRow base 33 6 (.slice A L.length c) L.length L.cells) (hv : ∀ x ∈ L, x.1.dv.oneCell' = true) (hr : L.length ≤ 1099511627776) :
    Calls Try.prog 41 #[.slice A L.length c] w fun e w' => ∃ v, e = .returned v ∧ w'.ownsRow w.heap.size 33 6 v L.length L.cells ∧ Keeps None w w' := by
  obtain ⟨i0, hi, hz0, hz1, hz2⟩ := info_parts infoPkAll
  have qT : ∀ (w : World) (a : Option Addr) (n c n' c' : Nat), (binOp .eql 39 (.slice a n c) (.slice none n' c')).run Try.prog w = .ok (.bool a.isNone) w := fun w a n c n' c' => Lib.run_eql_slice_nil w _ _ a n c n' c' Try.underlying39
  cases A with
  | none =>
    have h0 : L = [] := by
      rcases hrow.2 with ⟨_, h0⟩ | ⟨g, cap, cur, e, _⟩
      · exact List.eq_nil_of_length_eq_zero h0
      · cases e
    subst h0
    go_enter Try.func41, Try.ntmps41
    go_wp2
    go_ret
    exact ⟨_, rfl, World.ownsRow_nil _ _ _ _, Keeps.refl _ _⟩
  | some ad =>
    obtain ⟨g, rfl⟩ := (Pks.of_owns hrow).2.2 ad rfl
    have hsrc : 0 < L.cells.length → ∃ a, some (⟨g, 0, Option.none⟩ : Addr) = some a ∧ ∀ j u, L.cells[j]? = some u → (w.alloc (.cells #[] 33)).cell? (a.add j) = some u := fun _ => ⟨_, rfl, fun j u hu => by
      rw [Addr.add_lit, Nat.zero_add]
      rcases hrow.2 with ⟨e, _⟩ | ⟨g', cap, cur, e, hb, hg, hn, hcap, hsz, hcur⟩
      · cases e
      · cases e
        have hg' : (w.alloc (.cells #[] 33)).heap[g]? = some (.cells cur 33 (0, 0)) := (Below.heap_alloc w _ g (lt_of_block hg)).trans hg
        rw [cell_of_row _ g j cur _ _ hg']
        rw [← hcur, List.getElem?_take] at hu
        split at hu
        · simpa using hu
        · cases hu⟩
    have hone : ∀ u ∈ L.cells, u.oneCell' = true := fun u hu => by
      obtain ⟨x, hx, hu⟩ := List.mem_flatMap.1 hu
      exact Pk.cells_one (hv x hx) u hu
    have hE : (w.alloc (.cells #[] 33)).ownsRow w.heap.size 33 6 (.slice (some ⟨w.heap.size, 0, Option.none⟩) 0 0) 0 [] :=
      ⟨rfl, .inr ⟨w.heap.size, 0, #[], rfl, Nat.le_refl _, heap_alloc_new w _, Nat.le_refl _, Nat.zero_le _, rfl, rfl⟩⟩
    have HE := Lib.hid hE
    have HS := Lib.hid hsrc
    clear hE hsrc
    have hcl : L.cells.length = L.length * 6 := Way.cells_length L
    have HC := Lib.hid hcl
    clear hcl
    go_enter Try.func41, Try.ntmps41
    go_wp2_with (at_builtin; refine wpList_append_row _ rfl (.tmp 5) (.tmp 6) 39 rfl w.heap.size 33 i0 _ 6 64 Try.underlying39 hi hz0 hz1 hz2 rfl (by decide) _ 0 _ rfl HE.out (some ⟨g, 0, Option.none⟩) L.length c L.cells rfl HC.out (fun e => by cases e) HS.out hone (by unfold maxLen; omega) (by omega) (by simp) ?_; intro v' w1 hown hK _)
    go_ret
    refine ⟨v', rfl, by simpa using hown, ((Keeps.refl None w).alloc _).andThen hK ?_⟩
    intro i hi e
    have := OwnB.is e
    omega

/-- The sequence's own state: the row that it goes over, and the bytes. -/
structure SeqSt (w : World) (bs : Nat) (A : Option Addr) (c : Nat) (L : Way) : Prop where
  blk : Blk w bs 39 [.slice A L.length c]
  pks : Pks w A (L.map (·.1))
  nums : ∀ x ∈ L, ∃ Ax cx, x.1.dv = .slice Ax x.2.length cx ∧ Nums .u8 w Ax x.2

set_option maxRecDepth 100000 in
set_option maxHeartbeats 1600000 in
theorem under_any (g base : Nat) (v : Value) (m1 m2 : Nat) (L : Way) (n : Nat) (sn : Ad → Int) (mn : Pr → Int) (w : World) (hN : Nt w g base v m1 m2 L n sn mn) (hn : n ≤ 1099511627776) :
    Calls Try.prog 27 #[.pointer (some ⟨g, 0, Option.none⟩)] w fun e w' => ∃ bs A c, e = .returned (.func (.func 42) #[] #[.pointer (some ⟨bs, 0, Option.none⟩)]) ∧
      SeqSt w' bs A c L ∧ Keeps None w w' ∧ w.heap.size ≤ bs ∧ (∀ b o, A = some ⟨b, o, Option.none⟩ → w.heap.size ≤ b) := by
  obtain ⟨Av, cv, rfl⟩ := owns_slice hN.row
  have c0 := hN.blk.cell 0 _ rfl
  have hm := hN.most
  go_enter Try.func27, Try.ntmps27
  go_wp2_with fail
  refine (clonepk_any base Av cv L w hN.row (fun x hx => hN.dv_one hx) (by omega)).mono ?_
  rintro e w1 ⟨v', rfl, hrow1, hk1⟩
  obtain ⟨A', c', rfl⟩ := owns_slice hrow1
  have kA := (Keeps.refl None w1).alloc (.cells #[.slice A' L.length c'] 39)
  have hb1 := Blk.new w1 39 [.slice A' L.length c']
  go_wp2_with fail
  go_ret
  refine ⟨w1.heap.size, A', c', rfl, ⟨hb1, (Pks.of_owns (owns_grew hrow1 kA)).1, fun x hx => ?_⟩, hk1.trans kA, hk1.size, fun b o e => ?_⟩
  · have hb := ((hN.bytes x hx).grew hk1).grew kA
    obtain ⟨Ax, cx, hd⟩ := hb.slice
    exact ⟨Ax, cx, hd, (Nums.row (by rw [← hd]; exact hb)).1⟩
  · subst e
    exact (World.ownsRow.lt hrow1 b rfl).1

section
variable {F : Fence} {nF : Nat} {ops : Array Oper} {rest : List Oper} {o : Oper} {a : Act} {w : World} {Q : Exit → Act → World → Prop}
theorem wpListIn_load_pk (hgd : o.guard = Option.none) (x : Operand) (ho : o.op = .load 33 x) (b j : Nat) (p : Pk) (hx : a.eval x = .pointer (some ⟨b, j, Option.none⟩)) (hp : PkAt w b j p)
    (h : wpListIn F nF Try.prog ops Q rest (a.put o.dst p.val) w) : wpListIn F nF Try.prog ops Q (o :: rest) a w := by
  refine wpListIn_plain hgd fun K hK => ?_
  unfold Oper.wpIn
  refine ⟨by simp [Oper.about, ho], ?_⟩
  rw [Oper.semAt_plain F _ _ (by rw [ho]; intro c hc'; cases hc'), exec_load_pk x ho b j p hx hp]
  exact hK _ _ h
theorem exec_store_pk (x y : Operand) (ho : o.op = .store 33 x y) (g : Nat) (p : Pk) (hx : a.eval x = .pointer (some ⟨g, 0, Option.none⟩)) (hy : a.eval y = p.val) (hd : p.dv.oneCell' = true)
    (old : List Value) (hg : Blk w g 33 old) (hl : old.length = 6) : (execOp a.eval o).run Try.prog w = .ok .skip (w.setRow g p.cells.toArray) := by
  have := run_storeVar_row (P := Try.prog) w g _ 33 _ p.cells.toArray hg.raw infoPk (by simp [hl, Pk.cells]) (by
    rw [Array.all_eq_true_iff_forall_mem]
    intro u hu
    exact Pk.cells_one hd u (by simpa using hu))
  unfold execOp
  simp only [ho, hx, hy, Instr.storeAt, Instr.sureAddr, Sem.run_bind, Sem.run_pure, Result.andThen_ok]
  rw [show p.val = .agg p.cells.toArray from rfl, this]
  rfl
theorem wpListIn_store_pk (hgd : o.guard = Option.none) (x y : Operand) (ho : o.op = .store 33 x y) (g : Nat) (p : Pk) (hx : a.eval x = .pointer (some ⟨g, 0, Option.none⟩)) (hy : a.eval y = p.val) (hd : p.dv.oneCell' = true)
    (old : List Value) (hg : Blk w g 33 old) (hl : old.length = 6)
    (h : ∀ w', Blk w' g 33 p.cells → Keeps (One g) w w' → wpListIn F nF Try.prog ops Q rest (a.put o.dst undef) w') : wpListIn F nF Try.prog ops Q (o :: rest) a w := by
  refine wpListIn_plain hgd fun K hK => ?_
  unfold Oper.wpIn
  refine ⟨by simp [Oper.about, ho], ?_⟩
  rw [Oper.semAt_plain F _ _ (by rw [ho]; intro c hc'; cases hc'), exec_store_pk x y ho g p hx hy hd old hg hl]
  exact hK _ _ (h _ (hg.setRow _) ((Keeps.refl _ _).setRow _ _ (fun _ => rfl)))
end

theorem SeqSt.keeps {S : Nat → Prop} {w w' : World} {bs : Nat} {A : Option Addr} {c : Nat} {L : Way} (h : SeqSt w bs A c L) (hk : Keeps S w w') (h1 : ¬ S bs) (h2 : ∀ b o, A = some ⟨b, o, Option.none⟩ → ¬ S b) (h3 : ∀ x ∈ L, ∀ Ax cx, x.1.dv = .slice Ax x.2.length cx → Off Ax S) : SeqSt w' bs A c L :=
  ⟨h.blk.keeps hk h1, fun j p hp => by obtain ⟨b, o, e, hq⟩ := h.pks j p hp; exact ⟨b, o, e, hq.keeps hk (h2 b o e)⟩, fun x hx => by obtain ⟨Ax, cx, e, hn⟩ := h.nums x hx; exact ⟨Ax, cx, e, hn.keeps hk (h3 x hx Ax cx e)⟩⟩
theorem SeqSt.grew {w w' : World} {bs : Nat} {A : Option Addr} {c : Nat} {L : Way} (h : SeqSt w bs A c L) (hk : Keeps None w w') : SeqSt w' bs A c L := h.keeps hk id (fun _ _ _ => id) (fun _ _ _ _ _ => Off.none_ _)

def encsU (x : Pk × List Int) : Array Value := #[x.1.val]
def GU (L : Way) (pre : Way) (x : Pk × List Int) (W0 W1 : World) : Prop := Row .u8 5 W1 W0.heap.size x.1.dv x.2 ∧ (pre ++ [x]).map core = (L.map core).take (pre.length + 1)
def SfU (L : Way) (xs : Way) : Prop := xs.map core = L.map core
def SpU (L : Way) (pre : Way) : Prop := ∃ k, pre.map core = (L.map core).take k

set_option maxRecDepth 100000 in
set_option maxHeartbeats 2000000 in
theorem under1_seq (n : Nat) (hn : 1 ≤ n) (bs : Nat) (A : Option Addr) (c : Nat) (L : Way) (hr : L.length ≤ 1099511627776) (hz : ∀ x ∈ L, x.2.length ≤ 140737488351232) :
    SeqG Fence.wide n Try.prog 42 #[.pointer (some ⟨bs, 0, Option.none⟩)] encsU (GU L) (fun W => SeqSt W bs A c L) (SfU L) (SpU L) L.length := by
  intro l J Jx W hJ hY h0 hS0
  have c0 := hS0.blk.cell 0 _ rfl
  refine callsIn_of_wp Try.func42 rfl trivial ?_ rfl
  simp only [Try.ntmps42, List.size_toArray, List.length_cons, List.length_nil, Nat.reduceAdd, Nat.reduceSub, Array.replicate_succ, Array.replicate_zero, List.push_toArray, List.append_toArray, List.nil_append, List.cons_append]
  gi_wp2
  gi_loopw [7] (fun i wr => ∃ (k : Nat) (pre : Way), k ≤ L.length ∧ i = .int .i64 k ∧ pre.length = k ∧ Hid (pre.map core = (L.map core).take k) ∧ J pre wr ∧ SeqSt wr bs A c L) (fun i _ => L.length - (intOf i).toNat)
  case atStart => exact ⟨0, [], Nat.zero_le _, rfl, rfl, Lib.hid rfl, h0, hS0⟩
  case round =>
    obtain ⟨k, pre, hk, rfl, hpl, hpre, hJs, hS⟩ := hrel
    by_cases hlt : k < L.length
    · obtain ⟨x, hx⟩ : ∃ x, L[k]? = some x := ⟨_, List.getElem?_eq_getElem hlt⟩
      have hxm : x ∈ L := List.mem_of_getElem? hx
      obtain ⟨b, o, rfl, hxp⟩ := hS.pks k x.1 (by rw [List.getElem?_map, hx]; rfl)
      obtain ⟨Ax, cx, hd, hnum⟩ := hS.nums x hxm
      have HX := Lib.hid hx
      have hd1 : x.1.dv.oneCell' = true := by rw [hd]; rfl
      have HD := Lib.hid hd
      have HPL := Lib.hid hpl
      clear hx hd hpl
      have hY0 := Blk.new wr 33 [.bool false, .int .i64 0, .int .i64 0, .bool false, .int .i64 0, .slice Option.none 0 0]
      have k0 := (Keeps.refl None wr).alloc (.cells #[.bool false, .int .i64 0, .int .i64 0, .bool false, .int .i64 0, .slice Option.none 0 0] 33)
      gi_wp2_with (first
        | (with_reducible refine wpListIn_load_pk rfl (.tmp 9) rfl b (o + k * 6) x.1 rfl hxp ?_)
        | (with_reducible refine wpListIn_store_pk rfl (.tmp 4) (.tmp 10) rfl wr.heap.size x.1 rfl rfl hd1 _ hY0 rfl ?_; intro w2 hB2 hk2)
        | (with_reducible refine wpListIn_load_pk rfl (.tmp 4) rfl wr.heap.size 0 x.1 rfl hB2.pk ?_))
      have kn2 : Keeps None wr w2 := k0.andThen hk2 (fun j hj e => by simp only [One] at e; omega)
      refine ⟨trivial, (callsIn_wide.2 (twin_any x.1 Ax x.2.length cx x.2 w2 HD.out (hnum.grew kn2) rfl (hz x hxm))).mono ?_⟩
      rintro e w3 ⟨dv, rfl, hrow3, hk3⟩
      have kn3 := kn2.trans hk3
      have hS3 := hS.grew kn3
      have hcore : (pre ++ [({x.1 with dv := dv}, x.2)]).map core = (L.map core).take (pre.length + 1) := by
        rw [List.map_append, hpre.out, HPL.out]
        refine (take_succ_of ?_).symm
        rw [List.getElem?_map, HX.out]
        rfl
      obtain ⟨fn, tmps, assign, body, hyl, hR⟩ := hY pre ({x.1 with dv := dv}, x.2) wr w3 hJs kn3 ⟨hrow3.down kn2.size, hcore⟩ hS3 (by rw [HPL.out]; exact hlt)
      have HC := Lib.hid hcore
      clear hcore
      dsimp only [encsU] at hyl
      gi_wp2
      refine hR.mono ?_
      rintro e W3 (⟨rfl, hJ3, hS4⟩ | ⟨rfl, hJx3⟩)
      · gi_wp2
        go_roundw
        case rel => exact ⟨k + 1, _, by omega, by simp, by simp [HPL.out], Lib.hid (by rw [HC.out, HPL.out]), hJ3, hS4⟩
        case measure => simp [intOf]; omega
      · gi_wp2
        refine bodyPost_ret (results_none rfl _ _ _) rfl ?_
        exact ⟨⟨_, rfl⟩, .inr ⟨_, ⟨_, HC.out⟩, hJx3⟩⟩
    · obtain rfl : k = L.length := by omega
      gi_wp2
      go_end0
      exact ⟨⟨_, rfl⟩, .inl ⟨pre, by have := hpre.out; rwa [List.take_of_length_le (by simp)] at this, hJs⟩⟩

/-- What is written beside the sequence leaves it as it is: blocks laid behind it, or blocks that hold nothing of its kinds. -/
theorem SeqSt.beside {w1 W W' : World} {T : Nat → Prop} {bs : Nat} {A : Option Addr} {c : Nat} {L : Way} (h0 : SeqSt w1 bs A c L) (h : SeqSt W bs A c L) (hk : Keeps T W W')
    (hT : ∀ b, T b → w1.heap.size ≤ b ∨ (b ≠ bs ∧ ∀ o, (∀ x, W.cell? ⟨b, o, Option.none⟩ ≠ some (.int .u8 x)) ∧ ∀ x, W.cell? ⟨b, o, Option.none⟩ ≠ some (.bool x))) : SeqSt W' bs A c L := by
  refine ⟨h.blk.keeps hk (fun e => ?_), fun j p hp => ?_, fun x hx => ?_⟩
  · rcases hT _ e with h1 | h1
    · have := h0.blk.lt; omega
    · exact h1.1 rfl
  · obtain ⟨b, o, e, hq⟩ := h.pks j p hp
    obtain ⟨b', o', e', hq'⟩ := h0.pks j p hp
    rw [e] at e'
    cases e'
    refine ⟨b, o, e, hq.keeps hk (fun t => ?_)⟩
    rcases hT _ t with h1 | h1
    · have := hq'.lt; omega
    · exact (h1.2 _).2 _ (hq 0 _ rfl)
  · obtain ⟨Ax, cx, e, hn⟩ := h.nums x hx
    obtain ⟨Ax', cx', e', hn'⟩ := h0.nums x hx
    rw [e] at e'
    cases e'
    refine ⟨Ax, cx, e, fun j hj => ?_⟩
    obtain ⟨b, o, eb, hc⟩ := hn j hj
    obtain ⟨b', o', eb', hc'⟩ := hn' j hj
    rw [eb] at eb'
    cases eb'
    refine ⟨b, o, eb, hk.cell hc (fun t => ?_)⟩
    rcases hT _ t with h1 | h1
    · have := cell_lt hc'; simp only at h1; omega
    · exact (h1.2 _).1 _ hc

theorem Blk.only {w : World} {g t o : Nat} {cs : List Value} {v : Value} (h : Blk w g t cs) (hv : w.cell? ⟨g, o, Option.none⟩ = some v) : cs[o]? = some v := by
  rw [cell_of_row w g o _ _ _ h.raw] at hv
  simpa using hv
end Go.Proofs.Ytcplogdaepmpnaa
