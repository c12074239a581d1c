/- NetApart, walked: two pairs of nets in turns. -/
import Derived.Test.YtcplogdaepmpnaaNPlays
import Derived.Deep.DeepCutAuto
import Derived.Deep.CutBlock
namespace Go.Proofs.Ytcplogdaepmpnaa
open Go.RowKit Go.Maps Go.ChangeMaps Go.WideElems Go.Proofs.YtcplogdaepmpnaaW.PrintLast

/-- Two pairs that share nothing: a step of one leaves the other. -/
theorem Bo.apart {w0 w w' : World} {n1 n2 g1 m1 k1 r1 g2 m2 k2 r2 : Nat} {d1 d1' d2 : Bd} (h1 : Bo w0 n1 g1 m1 k1 r1 d1 w) (h2 : Bo w0 n2 g2 m2 k2 r2 d2 w) (hf : ∀ b, MineB g1 m1 k1 r1 d1 b → ¬ MineB g2 m2 k2 r2 d2 b) (hG : Goes g1 m1 k1 r1 d1 d1' w w') :
    Bo w0 n2 g2 m2 k2 r2 d2 w' ∧ ∀ b, MineB g1 m1 k1 r1 d1' b → ¬ MineB g2 m2 k2 r2 d2 b := by
  refine ⟨h2.stay hG.keeps (fun b e f => hf b f e) (fun x hx b hb e => ?_) (fun b hb e => by have := (h1.lt b e).1; omega), fun b e f => ?_⟩
  · rcases e with e | e
    · exact h1.net.byte_off (h2.net.bytes x hx) hb e
    · exact h1.ref.byte_off (h2.net.bytes x hx) hb e
  · rcases hG.new b e with q | q
    · exact hf b q f
    · have := (h2.lt b f).2
      omega
theorem mine_sym {g1 m1 k1 r1 g2 m2 k2 r2 : Nat} {d1 d2 : Bd} (hf : ∀ b, MineB g1 m1 k1 r1 d1 b → ¬ MineB g2 m2 k2 r2 d2 b) : ∀ b, MineB g2 m2 k2 r2 d2 b → ¬ MineB g1 m1 k1 r1 d1 b := fun b e f => hf b f e

structure Two (w0 : World) (i j g1 m1 k1 r1 g2 m2 k2 r2 : Nat) (d1 d2 : Bd) (bW bV : Nat) (w : World) : Prop where
  a : Bo w0 (140 * i) g1 m1 k1 r1 d1 w
  b : Bo w0 (140 * j) g2 m2 k2 r2 d2 w
  far : ∀ b, MineB g1 m1 k1 r1 d1 b → ¬ MineB g2 m2 k2 r2 d2 b
  bw : Blk w bW 50 [.pointer (some ⟨g1, 0, Option.none⟩), .pointer (some ⟨r1, 0, Option.none⟩)]
  bv : Blk w bV 50 [.pointer (some ⟨g2, 0, Option.none⟩), .pointer (some ⟨r2, 0, Option.none⟩)]
  offw : ¬ MineB g1 m1 k1 r1 d1 bW ∧ ¬ MineB g2 m2 k2 r2 d2 bW
  offv : ¬ MineB g1 m1 k1 r1 d1 bV ∧ ¬ MineB g2 m2 k2 r2 d2 bV
theorem Two.left {w0 w w' : World} {i j g1 m1 k1 r1 g2 m2 k2 r2 : Nat} {d1 d1' d2 : Bd} {bW bV : Nat} (h : Two w0 i j g1 m1 k1 r1 g2 m2 k2 r2 d1 d2 bW bV w) (hB : Bo w0 (140 * (i + 1)) g1 m1 k1 r1 d1' w') (hG : Goes g1 m1 k1 r1 d1 d1' w w') : Two w0 (i + 1) j g1 m1 k1 r1 g2 m2 k2 r2 d1' d2 bW bV w' := by
  obtain ⟨q1, q2⟩ := h.a.apart h.b h.far hG
  exact ⟨hB, q1, q2, h.bw.keeps hG.keeps h.offw.1, h.bv.keeps hG.keeps h.offv.1, ⟨hG.off h.offw.1 h.bw.lt, h.offw.2⟩, ⟨hG.off h.offv.1 h.bv.lt, h.offv.2⟩⟩
theorem Two.right {w0 w w' : World} {i j g1 m1 k1 r1 g2 m2 k2 r2 : Nat} {d1 d2 d2' : Bd} {bW bV : Nat} (h : Two w0 i j g1 m1 k1 r1 g2 m2 k2 r2 d1 d2 bW bV w) (hB : Bo w0 (140 * (j + 1)) g2 m2 k2 r2 d2' w') (hG : Goes g2 m2 k2 r2 d2 d2' w w') : Two w0 i (j + 1) g1 m1 k1 r1 g2 m2 k2 r2 d1 d2' bW bV w' := by
  obtain ⟨q1, q2⟩ := h.b.apart h.a (mine_sym h.far) hG
  exact ⟨q1, hB, mine_sym q2, h.bw.keeps hG.keeps h.offw.2, h.bv.keeps hG.keeps h.offv.2, ⟨h.offw.1, hG.off h.offw.2 h.bw.lt⟩, ⟨h.offv.1, hG.off h.offv.2 h.bv.lt⟩⟩
theorem Goes.drewn {w w' : World} {g m1 m2 r : Nat} {d d' : Bd} (h : Goes g m1 m2 r d d' w.drew w') : Goes g m1 m2 r d d' w w' := (Goes.none (Keeps.refl None w).drew).trans h

abbrev dNil : Bd := ⟨.slice Option.none 0 0, [], fun _ => 0, fun _ => 0, .slice Option.none 0 0, .slice Option.none 0 0, [], []⟩
theorem mine_nil {g m1 m2 r b : Nat} (h : MineB g m1 m2 r dNil b) : b = g ∨ b = m1 ∨ b = m2 ∨ b = r := by
  rcases h with (e | e | e | e) | (e | e | e)
  · exact .inl e
  · exact .inr (.inl e)
  · exact .inr (.inr (.inl e))
  · cases e
  · exact .inr (.inr (.inr e))
  · cases e
  · cases e

set_option maxRecDepth 100000 in
set_option maxHeartbeats 8000000 in
theorem netapart_any (A : Option Addr) (nA capA : Nat) (its : List Stp) (B : Option Addr) (nB capB : Nat) (jts : List Stp) (T : Option Addr) (nT capT : Nat) (zs : List Int) (w : World) (hA : StpsAt w A its) (hRA : ∀ x ∈ its, x.Raw w) (hnA : its.length = nA) (hrA : nA ≤ 140737488351232)
    (hBB : StpsAt w B jts) (hRB : ∀ x ∈ jts, x.Raw w) (hnB : jts.length = nB) (hrB : nB ≤ 140737488351232) (hT : Nums .i64 w T zs) (hnT : zs.length = nT) (hrT : nT ≤ 140737488351232) (hzs : ∀ x ∈ zs, IntV x) :
    Calls Try.prog 8 #[.slice A nA capA, .slice B nB capB, .slice T nT capT] w fun e w' => e = .returned (.bool true) ∧ Keeps None w w' := by
  subst hnA
  subst hnB
  subst hnT
  go_enter Try.func8, Try.ntmps8
  go_wp2_with fail
  refine (nnew_any w).mono ?_
  rintro e w1 ⟨g1, m1, k1, rfl, hN, hk1⟩
  have hgl := hN.blk.lt
  have hm1 := hN.sent.lt
  have hm2 := hN.many.lt
  have hbr := (Blk.new w1 48 [.slice Option.none 0 0, .slice Option.none 0 0]).alloc (.cells #[.pointer (some ⟨g1, 0, Option.none⟩), .pointer (some ⟨w1.heap.size, 0, Option.none⟩)] 50)
  have hk2 := ((Keeps.refl None w1).alloc (.cells #[.slice Option.none 0 0, .slice Option.none 0 0] 48)).alloc (.cells #[.pointer (some ⟨g1, 0, Option.none⟩), .pointer (some ⟨w1.heap.size, 0, Option.none⟩)] 50)
  have hbW : Blk ((w1.alloc (.cells #[.slice Option.none 0 0, .slice Option.none 0 0] 48)).alloc (.cells #[.pointer (some ⟨g1, 0, Option.none⟩), .pointer (some ⟨w1.heap.size, 0, Option.none⟩)] 50)) (w1.heap.size + 1) 50 [.pointer (some ⟨g1, 0, Option.none⟩), .pointer (some ⟨w1.heap.size, 0, Option.none⟩)] := by
    have := Blk.new (w1.alloc (.cells #[.slice Option.none 0 0, .slice Option.none 0 0] 48)) 50 [.pointer (some ⟨g1, 0, Option.none⟩), .pointer (some ⟨w1.heap.size, 0, Option.none⟩)]
    simpa using this
  have hB1 := Bo.new hN hk1 hk2 hbr hk1.size
  go_wp2_with fail
  have hbWl := hbW.lt
  obtain ⟨w2, ew2⟩ : ∃ w2, w2 = ((w1.alloc (.cells #[.slice Option.none 0 0, .slice Option.none 0 0] 48)).alloc (.cells #[.pointer (some ⟨g1, 0, Option.none⟩), .pointer (some ⟨w1.heap.size, 0, Option.none⟩)] 50)) := ⟨_, rfl⟩
  rw [← ew2] at hbW hB1 hbWl hk2 ⊢
  clear ew2 hbr
  refine (nnew_any w2).mono ?_
  rintro e w3 ⟨g2, m2, k2, rfl, hN2, hk3⟩
  have hg2 := hN2.hg
  have hs3 := hk3.size
  have hN2' : Nt w3 g2 w.heap.size (.slice Option.none 0 0) m2 k2 [] 0 (fun _ => 0) (fun _ => 0) := ⟨hN2.blk, World.ownsRow_nil _ _ _ _, fun x hx => (by cases hx), hN2.apart, hN2.sent, hN2.many, hN2.most, by have := hB1.keeps.size; omega, hN2.ne⟩
  have hgl2 := hN2.blk.lt
  have hm12 := hN2.sent.lt
  have hm22 := hN2.many.lt
  have hbr2 := (Blk.new w3 48 [.slice Option.none 0 0, .slice Option.none 0 0]).alloc (.cells #[.pointer (some ⟨g2, 0, Option.none⟩), .pointer (some ⟨w3.heap.size, 0, Option.none⟩)] 50)
  have hk4 := ((Keeps.refl None w3).alloc (.cells #[.slice Option.none 0 0, .slice Option.none 0 0] 48)).alloc (.cells #[.pointer (some ⟨g2, 0, Option.none⟩), .pointer (some ⟨w3.heap.size, 0, Option.none⟩)] 50)
  have hbV : Blk ((w3.alloc (.cells #[.slice Option.none 0 0, .slice Option.none 0 0] 48)).alloc (.cells #[.pointer (some ⟨g2, 0, Option.none⟩), .pointer (some ⟨w3.heap.size, 0, Option.none⟩)] 50)) (w3.heap.size + 1) 50 [.pointer (some ⟨g2, 0, Option.none⟩), .pointer (some ⟨w3.heap.size, 0, Option.none⟩)] := by
    have := Blk.new (w3.alloc (.cells #[.slice Option.none 0 0, .slice Option.none 0 0] 48)) 50 [.pointer (some ⟨g2, 0, Option.none⟩), .pointer (some ⟨w3.heap.size, 0, Option.none⟩)]
    simpa using this
  have hk13 : Keeps None w w3 := (hk1.trans hk2).trans hk3
  have hB2 := Bo.new hN2' hk13 hk4 hbr2 hk13.size
  have hB1' := (hB1.grew hk3).grew hk4
  have hbW' := (hbW.grew hk3).grew hk4
  have cW0 := hbW'.cell 0 _ rfl
  have cV0 := hbV.cell 0 _ rfl
  go_wp2_with fail
  have h4 : w1.heap.size < w1.heap.size + 1 ∧ w1.heap.size + 1 < w2.heap.size := by omega
  have hb1 : w.heap.size ≤ w1.heap.size := hk1.size
  have hg1 := hN.hg
  have hTwo : Two w 0 0 g1 m1 k1 w1.heap.size g2 m2 k2 w3.heap.size dNil dNil (w1.heap.size + 1) (w3.heap.size + 1) ((w3.alloc (.cells #[.slice Option.none 0 0, .slice Option.none 0 0] 48)).alloc (.cells #[.pointer (some ⟨g2, 0, Option.none⟩), .pointer (some ⟨w3.heap.size, 0, Option.none⟩)] 50)) :=
    ⟨hB1', hB2, fun b e f => by rcases mine_nil e with e | e | e | e <;> rcases mine_nil f with f | f | f | f <;> omega, hbW', hbV, ⟨fun e => by rcases mine_nil e with e | e | e | e <;> omega, fun e => by rcases mine_nil e with e | e | e | e <;> omega⟩, ⟨fun e => by rcases mine_nil e with e | e | e | e <;> omega, fun e => by rcases mine_nil e with e | e | e | e <;> omega⟩⟩
  obtain ⟨bW, ebW⟩ : ∃ bW, bW = w1.heap.size + 1 := ⟨_, rfl⟩
  obtain ⟨bV, ebV⟩ : ∃ bV, bV = w3.heap.size + 1 := ⟨_, rfl⟩
  obtain ⟨r1, er1⟩ : ∃ r, r = w1.heap.size := ⟨_, rfl⟩
  obtain ⟨r2, er2⟩ : ∃ r, r = w3.heap.size := ⟨_, rfl⟩
  rw [← ebW, ← ebV, ← er1, ← er2] at hTwo
  rw [← ebW, ← ebV, ← er1, ← er2]
  obtain ⟨d1, hd1⟩ : ∃ d, d = dNil := ⟨_, rfl⟩
  rw [← hd1] at hTwo
  clear hd1 ebW ebV er1 er2 hB1' hB2 hbW' hbV cW0 cV0 h4 hb1 hk4 hbr2 hgl2 hm12 hm22 hN2' hN2 hN hB1 hbW hbWl hk1 hk2 hk3 hk13 hgl hm1 hm2 hg1 hg2 hs3
  go_loopw [9, 10, 11] (fun x9 x10 x11 wr => ∃ (i j : Nat) (d1 d2 : Bd), i ≤ its.length ∧ j ≤ jts.length ∧ i + j ≤ 300 ∧ x9 = .int .i64 i ∧ x10 = .int .i64 j ∧ x11 = .int .i64 ((i + j : Nat) : Int) ∧ Two w i j g1 m1 k1 r1 g2 m2 k2 r2 d1 d2 bW bV wr) (fun _ _ x _ => 300 - (intOf x).toNat)
  case atStart => exact ⟨0, 0, d1, d1, Nat.zero_le _, Nat.zero_le _, by omega, rfl, rfl, rfl, hTwo⟩
  case round =>
    clear hTwo
    obtain ⟨i, j, d1, d2, hi, hj, hij, rfl, rfl, rfl, hW⟩ := hrel
    have cW0 := hW.bw.cell 0 _ rfl
    have cW1 := hW.bw.cell 1 _ rfl
    have cV0 := hW.bv.cell 0 _ rfl
    have cV1 := hW.bv.cell 1 _ rfl
    have hB1 := hW.a
    have hB2 := hW.b
    have hTr := hT.grew hB1.keeps
    obtain ⟨s, hs⟩ : ∃ s : Nat, s = i + j := ⟨_, rfl⟩
    have hib : i ≤ 300 ∧ j ≤ 300 := by omega
    rw [← hs] at hij ⊢
    have HS := Lib.hid hs
    clear hs
    have done : ∀ wa wb wc, Keeps None wr wa → Keeps None wa wb → Keeps None wb wc → Keeps None w wc := fun wa wb wc h1 h2 h3 => ((hB1.keeps.trans h1).trans h2).trans h3
    rcases (by omega : ¬ s < 300 ∨ (s < 300 ∧ ¬ i < its.length ∧ ¬ j < jts.length) ∨ (s < 300 ∧ i < its.length) ∨ (s < 300 ∧ ¬ i < its.length ∧ j < jts.length)) with hend | ⟨h3, hia, hjb⟩ | ⟨h3, hia⟩ | ⟨h3, hia, hjb⟩
    case inl =>
      go_wp2_with fail
      refine (bunder_any wr hB1 (by omega)).mono ?_
      rintro e wa ⟨rfl, hka⟩
      have cV0a := (hW.bv.grew hka).cell 0 _ rfl
      have cV1a := (hW.bv.grew hka).cell 1 _ rfl
      go_wp2_with fail
      refine (bunder_any wa (hB2.grew hka) (by omega)).mono ?_
      rintro e wb ⟨rfl, hkb⟩
      go_wp2_with fail
      refine (head_any wb).mono ?_
      rintro e wc ⟨rfl, hkc⟩
      go_wp2_with fail
      go_ret
      exact ⟨rfl, done _ _ _ hka hkb hkc⟩
    case inr.inl =>
      go_wp2_with fail
      refine (bunder_any wr hB1 (by omega)).mono ?_
      rintro e wa ⟨rfl, hka⟩
      have cV0a := (hW.bv.grew hka).cell 0 _ rfl
      have cV1a := (hW.bv.grew hka).cell 1 _ rfl
      go_wp2_with fail
      refine (bunder_any wa (hB2.grew hka) (by omega)).mono ?_
      rintro e wb ⟨rfl, hkb⟩
      go_wp2_with fail
      refine (head_any wb).mono ?_
      rintro e wc ⟨rfl, hkc⟩
      go_wp2_with fail
      go_ret
      exact ⟨rfl, done _ _ _ hka hkb hkc⟩
    case inr.inr.inl =>
      go_upto_region 9 with (fail)
      go_cut [12] (fun x wx => (∃ b : Bool, x = .bool b) ∧ wr = wx)
      case first =>
        by_cases hz : 0 < zs.length
        · have hml : s % zs.length < zs.length := Nat.mod_lt _ hz
          obtain ⟨t, bT, oT, rfl, hct, ht⟩ := hTr.get (s % zs.length) hml
          have hti := (intV_iff _).1 (hzs t (List.mem_of_getElem? ht.out))
          have hmod : (s : Int) % (zs.length : Int) = ((s % zs.length : Nat) : Int) := by simp
          obtain ⟨q, hq⟩ : ∃ q, q = s % zs.length := ⟨_, rfl⟩
          rw [← hq] at hml hct hmod
          clear ht hq
          go_wp2_with fail
          all_goals go_meet
          all_goals exact ⟨⟨_, rfl⟩, rfl⟩
        · go_wp2_with fail
          go_meet
          exact ⟨⟨_, rfl⟩, rfl⟩
      case rest =>
        obtain ⟨⟨sec, rfl⟩, rfl⟩ := hcut
        cases sec with
        | false =>
          obtain ⟨x, hx⟩ : ∃ x, its[i]? = some x := ⟨_, List.getElem?_eq_getElem hia⟩
          have hxw := hRA x (List.mem_of_getElem? hx)
          obtain ⟨b1, o1, rfl, hxc⟩ := hA.grew hB1.keeps i x hx
          go_wp2_with fail
          refine start_ (ds := [5]) (S := (fun w' => Keeps None wr w')) #[false, false, false, false, false, false, false] (by kernel_rfl) rfl rfl ((Keeps.refl _ _).drew) (fun hS0 => ?_)
          refine take_ (i := 0) (N := some 81) (v := wV g1 r1) #[true, false, false, false, false, false, false] rfl rfl (by kernel_rfl) (fun _ _ _ h => h) (Or.inl ⟨wanted_none rfl, by intro w' hSw; have q0 := hSw.cell cW0 id; have q1 := hSw.cell cW1 id; simp only [wV]; go_simp⟩) hS0 rfl ?_
          try simp only [Act.put, List.setIfInBounds_toArray, List.set_cons_zero, List.set_cons_succ]
          refine pure_ (i := 1) (N := some 82) (v := .slice (some ⟨b1, o1, Option.none⟩) its.length capA) #[true, true, false, false, false, false, false] rfl rfl (by kernel_rfl) (fun _ _ _ h => h) (Or.inl ⟨wanted_none rfl, fun w => by rfl⟩) rfl ?_
          try simp only [Act.put, List.setIfInBounds_toArray, List.set_cons_zero, List.set_cons_succ]
          refine pure_ (i := 2) (N := some 83) (v := .int .i64 (i : Int)) #[true, true, true, false, false, false, false] rfl rfl (by kernel_rfl) (fun _ _ _ h => h) (Or.inl ⟨wanted_none rfl, fun w => by rfl⟩) rfl ?_
          try simp only [Act.put, List.setIfInBounds_toArray, List.set_cons_zero, List.set_cons_succ]
          refine pure_ (i := 3) (N := some 84) (v := .pointer (some ⟨b1, o1 + i * 7, Option.none⟩)) #[true, true, true, true, false, false, false] rfl rfl (by kernel_rfl) (fun _ _ _ h => h) (Or.inl ⟨wanted_none rfl, fun w => by go_simp⟩) rfl ?_
          try simp only [Act.put, List.setIfInBounds_toArray, List.set_cons_zero, List.set_cons_succ]
          refine take_ (i := 4) (N := some 85) (v := x.val) #[true, true, true, true, true, false, false] rfl rfl (by kernel_rfl) (fun _ _ _ h => h) (Or.inl ⟨wanted_none rfl, by intro w' hSw; exact exec_load_stp (.tmp 84) rfl b1 (o1 + i * 7) x rfl (fun i v hv => hSw.cell (hxc i v hv) id)⟩) hS0 rfl ?_
          try simp only [Act.put, List.setIfInBounds_toArray, List.set_cons_zero, List.set_cons_succ]
          refine last_ (i := 5) (oi := ({ dst := some 86, op := Op.call { callee := Callee.value (Operand.func 20), args := #[Operand.tmp 81, Operand.tmp 85], argTypes := #[50, 53] }, type := 4, pos := "outright.go:188", after := #[{ on := 0, ground := Ground.data }, { on := 4, ground := Ground.data }], guard := Option.none } : Oper)) (N := some 86) #[true, true, true, true, true, true, false] rfl rfl (by kernel_rfl) (by decide) ?_
          intro KK hKK
          refine goes_ Try.func20 (by kernel_rfl) rfl #[wV g1 r1, x.val] (wanted_none rfl) rfl rfl (by simp [Act.eval]) ?_
          refine (bstep_any x wr.drew (hB1.grew (Keeps.refl None wr).drew) hxw (by omega)).mono ?_
          rintro e wb ⟨rfl, d', hB', hG⟩
          refine ⟨_, rfl, hKK.out _ _ ?_⟩
          try simp only [Act.put, List.setIfInBounds_toArray, List.set_cons_zero, List.set_cons_succ]
          refine pure_ (i := 6) (N := some 87) (v := .bool false) #[true, true, true, true, true, true, true] rfl rfl (by kernel_rfl) (fun _ _ _ h => h) (Or.inl ⟨wanted_none rfl, fun w => by go_simp⟩) rfl ?_
          try simp only [Act.put, List.setIfInBounds_toArray, List.set_cons_zero, List.set_cons_succ]
          refine done_ (by kernel_rfl) ?_
          go_wp2_with fail
          go_roundw
          case rel => exact ⟨i + 1, j, d', d2, by omega, by omega, by have := HS.out; omega, by go_num, by go_num, by have := HS.out; go_num, hW.left (hB'.mono (by omega)) hG.drewn⟩
          case measure => have := HS.out; simp [intOf]; omega
        | true =>
          by_cases hjb : j < jts.length
          · skip
            obtain ⟨y, hy⟩ : ∃ y, jts[j]? = some y := ⟨_, List.getElem?_eq_getElem hjb⟩
            have hyw := hRB y (List.mem_of_getElem? hy)
            obtain ⟨b2, o2, rfl, hyc⟩ := hBB.grew hB2.keeps j y hy
            go_wp2_with fail
            refine start_ (ds := [5]) (S := (fun w' => Keeps None wr w')) #[false, false, false, false, false, false, false] (by kernel_rfl) rfl rfl ((Keeps.refl _ _).drew) (fun hS0 => ?_)
            refine take_ (i := 0) (N := some 72) (v := wV g2 r2) #[true, false, false, false, false, false, false] rfl rfl (by kernel_rfl) (fun _ _ _ h => h) (Or.inl ⟨wanted_none rfl, by intro w' hSw; have q0 := hSw.cell cV0 id; have q1 := hSw.cell cV1 id; simp only [wV]; go_simp⟩) hS0 rfl ?_
            try simp only [Act.put, List.setIfInBounds_toArray, List.set_cons_zero, List.set_cons_succ]
            refine pure_ (i := 1) (N := some 73) (v := .slice (some ⟨b2, o2, Option.none⟩) jts.length capB) #[true, true, false, false, false, false, false] rfl rfl (by kernel_rfl) (fun _ _ _ h => h) (Or.inl ⟨wanted_none rfl, fun w => by rfl⟩) rfl ?_
            try simp only [Act.put, List.setIfInBounds_toArray, List.set_cons_zero, List.set_cons_succ]
            refine pure_ (i := 2) (N := some 74) (v := .int .i64 (j : Int)) #[true, true, true, false, false, false, false] rfl rfl (by kernel_rfl) (fun _ _ _ h => h) (Or.inl ⟨wanted_none rfl, fun w => by rfl⟩) rfl ?_
            try simp only [Act.put, List.setIfInBounds_toArray, List.set_cons_zero, List.set_cons_succ]
            refine pure_ (i := 3) (N := some 75) (v := .pointer (some ⟨b2, o2 + j * 7, Option.none⟩)) #[true, true, true, true, false, false, false] rfl rfl (by kernel_rfl) (fun _ _ _ h => h) (Or.inl ⟨wanted_none rfl, fun w => by go_simp⟩) rfl ?_
            try simp only [Act.put, List.setIfInBounds_toArray, List.set_cons_zero, List.set_cons_succ]
            refine take_ (i := 4) (N := some 76) (v := y.val) #[true, true, true, true, true, false, false] rfl rfl (by kernel_rfl) (fun _ _ _ h => h) (Or.inl ⟨wanted_none rfl, by intro w' hSw; exact exec_load_stp (.tmp 75) rfl b2 (o2 + j * 7) y rfl (fun i v hv => hSw.cell (hyc i v hv) id)⟩) hS0 rfl ?_
            try simp only [Act.put, List.setIfInBounds_toArray, List.set_cons_zero, List.set_cons_succ]
            refine last_ (i := 5) (oi := ({ dst := some 77, op := Op.call { callee := Callee.value (Operand.func 20), args := #[Operand.tmp 72, Operand.tmp 76], argTypes := #[50, 53] }, type := 4, pos := "outright.go:182", after := #[{ on := 0, ground := Ground.data }, { on := 4, ground := Ground.data }], guard := Option.none } : Oper)) (N := some 77) #[true, true, true, true, true, true, false] rfl rfl (by kernel_rfl) (by decide) ?_
            intro KK hKK
            refine goes_ Try.func20 (by kernel_rfl) rfl #[wV g2 r2, y.val] (wanted_none rfl) rfl rfl (by simp [Act.eval]) ?_
            refine (bstep_any y wr.drew (hB2.grew (Keeps.refl None wr).drew) hyw (by omega)).mono ?_
            rintro e wb ⟨rfl, d', hB', hG⟩
            refine ⟨_, rfl, hKK.out _ _ ?_⟩
            try simp only [Act.put, List.setIfInBounds_toArray, List.set_cons_zero, List.set_cons_succ]
            refine pure_ (i := 6) (N := some 78) (v := .bool false) #[true, true, true, true, true, true, true] rfl rfl (by kernel_rfl) (fun _ _ _ h => h) (Or.inl ⟨wanted_none rfl, fun w => by go_simp⟩) rfl ?_
            try simp only [Act.put, List.setIfInBounds_toArray, List.set_cons_zero, List.set_cons_succ]
            refine done_ (by kernel_rfl) ?_
            go_wp2_with fail
            go_roundw
            case rel => exact ⟨i, j + 1, d1, d', by omega, by omega, by have := HS.out; omega, by go_num, by go_num, by have := HS.out; go_num, hW.right (hB'.mono (by omega)) hG.drewn⟩
            case measure => have := HS.out; simp [intOf]; omega
          · skip
            obtain ⟨x, hx⟩ : ∃ x, its[i]? = some x := ⟨_, List.getElem?_eq_getElem hia⟩
            have hxw := hRA x (List.mem_of_getElem? hx)
            obtain ⟨b1, o1, rfl, hxc⟩ := hA.grew hB1.keeps i x hx
            go_wp2_with fail
            refine start_ (ds := [5]) (S := (fun w' => Keeps None wr w')) #[false, false, false, false, false, false, false] (by kernel_rfl) rfl rfl ((Keeps.refl _ _).drew) (fun hS0 => ?_)
            refine take_ (i := 0) (N := some 81) (v := wV g1 r1) #[true, false, false, false, false, false, false] rfl rfl (by kernel_rfl) (fun _ _ _ h => h) (Or.inl ⟨wanted_none rfl, by intro w' hSw; have q0 := hSw.cell cW0 id; have q1 := hSw.cell cW1 id; simp only [wV]; go_simp⟩) hS0 rfl ?_
            try simp only [Act.put, List.setIfInBounds_toArray, List.set_cons_zero, List.set_cons_succ]
            refine pure_ (i := 1) (N := some 82) (v := .slice (some ⟨b1, o1, Option.none⟩) its.length capA) #[true, true, false, false, false, false, false] rfl rfl (by kernel_rfl) (fun _ _ _ h => h) (Or.inl ⟨wanted_none rfl, fun w => by rfl⟩) rfl ?_
            try simp only [Act.put, List.setIfInBounds_toArray, List.set_cons_zero, List.set_cons_succ]
            refine pure_ (i := 2) (N := some 83) (v := .int .i64 (i : Int)) #[true, true, true, false, false, false, false] rfl rfl (by kernel_rfl) (fun _ _ _ h => h) (Or.inl ⟨wanted_none rfl, fun w => by rfl⟩) rfl ?_
            try simp only [Act.put, List.setIfInBounds_toArray, List.set_cons_zero, List.set_cons_succ]
            refine pure_ (i := 3) (N := some 84) (v := .pointer (some ⟨b1, o1 + i * 7, Option.none⟩)) #[true, true, true, true, false, false, false] rfl rfl (by kernel_rfl) (fun _ _ _ h => h) (Or.inl ⟨wanted_none rfl, fun w => by go_simp⟩) rfl ?_
            try simp only [Act.put, List.setIfInBounds_toArray, List.set_cons_zero, List.set_cons_succ]
            refine take_ (i := 4) (N := some 85) (v := x.val) #[true, true, true, true, true, false, false] rfl rfl (by kernel_rfl) (fun _ _ _ h => h) (Or.inl ⟨wanted_none rfl, by intro w' hSw; exact exec_load_stp (.tmp 84) rfl b1 (o1 + i * 7) x rfl (fun i v hv => hSw.cell (hxc i v hv) id)⟩) hS0 rfl ?_
            try simp only [Act.put, List.setIfInBounds_toArray, List.set_cons_zero, List.set_cons_succ]
            refine last_ (i := 5) (oi := ({ dst := some 86, op := Op.call { callee := Callee.value (Operand.func 20), args := #[Operand.tmp 81, Operand.tmp 85], argTypes := #[50, 53] }, type := 4, pos := "outright.go:188", after := #[{ on := 0, ground := Ground.data }, { on := 4, ground := Ground.data }], guard := Option.none } : Oper)) (N := some 86) #[true, true, true, true, true, true, false] rfl rfl (by kernel_rfl) (by decide) ?_
            intro KK hKK
            refine goes_ Try.func20 (by kernel_rfl) rfl #[wV g1 r1, x.val] (wanted_none rfl) rfl rfl (by simp [Act.eval]) ?_
            refine (bstep_any x wr.drew (hB1.grew (Keeps.refl None wr).drew) hxw (by omega)).mono ?_
            rintro e wb ⟨rfl, d', hB', hG⟩
            refine ⟨_, rfl, hKK.out _ _ ?_⟩
            try simp only [Act.put, List.setIfInBounds_toArray, List.set_cons_zero, List.set_cons_succ]
            refine pure_ (i := 6) (N := some 87) (v := .bool false) #[true, true, true, true, true, true, true] rfl rfl (by kernel_rfl) (fun _ _ _ h => h) (Or.inl ⟨wanted_none rfl, fun w => by go_simp⟩) rfl ?_
            try simp only [Act.put, List.setIfInBounds_toArray, List.set_cons_zero, List.set_cons_succ]
            refine done_ (by kernel_rfl) ?_
            go_wp2_with fail
            go_roundw
            case rel => exact ⟨i + 1, j, d', d2, by omega, by omega, by have := HS.out; omega, by go_num, by go_num, by have := HS.out; go_num, hW.left (hB'.mono (by omega)) hG.drewn⟩
            case measure => have := HS.out; simp [intOf]; omega
    case inr.inr.inr =>
      go_upto_region 9 with (fail)
      go_cut [12] (fun x wx => (∃ b : Bool, x = .bool b) ∧ wr = wx)
      case first =>
        by_cases hz : 0 < zs.length
        · have hml : s % zs.length < zs.length := Nat.mod_lt _ hz
          obtain ⟨t, bT, oT, rfl, hct, ht⟩ := hTr.get (s % zs.length) hml
          have hti := (intV_iff _).1 (hzs t (List.mem_of_getElem? ht.out))
          have hmod : (s : Int) % (zs.length : Int) = ((s % zs.length : Nat) : Int) := by simp
          obtain ⟨q, hq⟩ : ∃ q, q = s % zs.length := ⟨_, rfl⟩
          rw [← hq] at hml hct hmod
          clear ht hq
          go_wp2_with fail
          all_goals go_meet
          all_goals exact ⟨⟨_, rfl⟩, rfl⟩
        · go_wp2_with fail
          go_meet
          exact ⟨⟨_, rfl⟩, rfl⟩
      case rest =>
        obtain ⟨⟨sec, rfl⟩, rfl⟩ := hcut
        cases sec with
        | false =>
          obtain ⟨y, hy⟩ : ∃ y, jts[j]? = some y := ⟨_, List.getElem?_eq_getElem hjb⟩
          have hyw := hRB y (List.mem_of_getElem? hy)
          obtain ⟨b2, o2, rfl, hyc⟩ := hBB.grew hB2.keeps j y hy
          go_wp2_with fail
          refine start_ (ds := [5]) (S := (fun w' => Keeps None wr w')) #[false, false, false, false, false, false, false] (by kernel_rfl) rfl rfl ((Keeps.refl _ _).drew) (fun hS0 => ?_)
          refine take_ (i := 0) (N := some 72) (v := wV g2 r2) #[true, false, false, false, false, false, false] rfl rfl (by kernel_rfl) (fun _ _ _ h => h) (Or.inl ⟨wanted_none rfl, by intro w' hSw; have q0 := hSw.cell cV0 id; have q1 := hSw.cell cV1 id; simp only [wV]; go_simp⟩) hS0 rfl ?_
          try simp only [Act.put, List.setIfInBounds_toArray, List.set_cons_zero, List.set_cons_succ]
          refine pure_ (i := 1) (N := some 73) (v := .slice (some ⟨b2, o2, Option.none⟩) jts.length capB) #[true, true, false, false, false, false, false] rfl rfl (by kernel_rfl) (fun _ _ _ h => h) (Or.inl ⟨wanted_none rfl, fun w => by rfl⟩) rfl ?_
          try simp only [Act.put, List.setIfInBounds_toArray, List.set_cons_zero, List.set_cons_succ]
          refine pure_ (i := 2) (N := some 74) (v := .int .i64 (j : Int)) #[true, true, true, false, false, false, false] rfl rfl (by kernel_rfl) (fun _ _ _ h => h) (Or.inl ⟨wanted_none rfl, fun w => by rfl⟩) rfl ?_
          try simp only [Act.put, List.setIfInBounds_toArray, List.set_cons_zero, List.set_cons_succ]
          refine pure_ (i := 3) (N := some 75) (v := .pointer (some ⟨b2, o2 + j * 7, Option.none⟩)) #[true, true, true, true, false, false, false] rfl rfl (by kernel_rfl) (fun _ _ _ h => h) (Or.inl ⟨wanted_none rfl, fun w => by go_simp⟩) rfl ?_
          try simp only [Act.put, List.setIfInBounds_toArray, List.set_cons_zero, List.set_cons_succ]
          refine take_ (i := 4) (N := some 76) (v := y.val) #[true, true, true, true, true, false, false] rfl rfl (by kernel_rfl) (fun _ _ _ h => h) (Or.inl ⟨wanted_none rfl, by intro w' hSw; exact exec_load_stp (.tmp 75) rfl b2 (o2 + j * 7) y rfl (fun i v hv => hSw.cell (hyc i v hv) id)⟩) hS0 rfl ?_
          try simp only [Act.put, List.setIfInBounds_toArray, List.set_cons_zero, List.set_cons_succ]
          refine last_ (i := 5) (oi := ({ dst := some 77, op := Op.call { callee := Callee.value (Operand.func 20), args := #[Operand.tmp 72, Operand.tmp 76], argTypes := #[50, 53] }, type := 4, pos := "outright.go:182", after := #[{ on := 0, ground := Ground.data }, { on := 4, ground := Ground.data }], guard := Option.none } : Oper)) (N := some 77) #[true, true, true, true, true, true, false] rfl rfl (by kernel_rfl) (by decide) ?_
          intro KK hKK
          refine goes_ Try.func20 (by kernel_rfl) rfl #[wV g2 r2, y.val] (wanted_none rfl) rfl rfl (by simp [Act.eval]) ?_
          refine (bstep_any y wr.drew (hB2.grew (Keeps.refl None wr).drew) hyw (by omega)).mono ?_
          rintro e wb ⟨rfl, d', hB', hG⟩
          refine ⟨_, rfl, hKK.out _ _ ?_⟩
          try simp only [Act.put, List.setIfInBounds_toArray, List.set_cons_zero, List.set_cons_succ]
          refine pure_ (i := 6) (N := some 78) (v := .bool false) #[true, true, true, true, true, true, true] rfl rfl (by kernel_rfl) (fun _ _ _ h => h) (Or.inl ⟨wanted_none rfl, fun w => by go_simp⟩) rfl ?_
          try simp only [Act.put, List.setIfInBounds_toArray, List.set_cons_zero, List.set_cons_succ]
          refine done_ (by kernel_rfl) ?_
          go_wp2_with fail
          go_roundw
          case rel => exact ⟨i, j + 1, d1, d', by omega, by omega, by have := HS.out; omega, by go_num, by go_num, by have := HS.out; go_num, hW.right (hB'.mono (by omega)) hG.drewn⟩
          case measure => have := HS.out; simp [intOf]; omega
        | true =>
          obtain ⟨y, hy⟩ : ∃ y, jts[j]? = some y := ⟨_, List.getElem?_eq_getElem hjb⟩
          have hyw := hRB y (List.mem_of_getElem? hy)
          obtain ⟨b2, o2, rfl, hyc⟩ := hBB.grew hB2.keeps j y hy
          go_wp2_with fail
          refine start_ (ds := [5]) (S := (fun w' => Keeps None wr w')) #[false, false, false, false, false, false, false] (by kernel_rfl) rfl rfl ((Keeps.refl _ _).drew) (fun hS0 => ?_)
          refine take_ (i := 0) (N := some 72) (v := wV g2 r2) #[true, false, false, false, false, false, false] rfl rfl (by kernel_rfl) (fun _ _ _ h => h) (Or.inl ⟨wanted_none rfl, by intro w' hSw; have q0 := hSw.cell cV0 id; have q1 := hSw.cell cV1 id; simp only [wV]; go_simp⟩) hS0 rfl ?_
          try simp only [Act.put, List.setIfInBounds_toArray, List.set_cons_zero, List.set_cons_succ]
          refine pure_ (i := 1) (N := some 73) (v := .slice (some ⟨b2, o2, Option.none⟩) jts.length capB) #[true, true, false, false, false, false, false] rfl rfl (by kernel_rfl) (fun _ _ _ h => h) (Or.inl ⟨wanted_none rfl, fun w => by rfl⟩) rfl ?_
          try simp only [Act.put, List.setIfInBounds_toArray, List.set_cons_zero, List.set_cons_succ]
          refine pure_ (i := 2) (N := some 74) (v := .int .i64 (j : Int)) #[true, true, true, false, false, false, false] rfl rfl (by kernel_rfl) (fun _ _ _ h => h) (Or.inl ⟨wanted_none rfl, fun w => by rfl⟩) rfl ?_
          try simp only [Act.put, List.setIfInBounds_toArray, List.set_cons_zero, List.set_cons_succ]
          refine pure_ (i := 3) (N := some 75) (v := .pointer (some ⟨b2, o2 + j * 7, Option.none⟩)) #[true, true, true, true, false, false, false] rfl rfl (by kernel_rfl) (fun _ _ _ h => h) (Or.inl ⟨wanted_none rfl, fun w => by go_simp⟩) rfl ?_
          try simp only [Act.put, List.setIfInBounds_toArray, List.set_cons_zero, List.set_cons_succ]
          refine take_ (i := 4) (N := some 76) (v := y.val) #[true, true, true, true, true, false, false] rfl rfl (by kernel_rfl) (fun _ _ _ h => h) (Or.inl ⟨wanted_none rfl, by intro w' hSw; exact exec_load_stp (.tmp 75) rfl b2 (o2 + j * 7) y rfl (fun i v hv => hSw.cell (hyc i v hv) id)⟩) hS0 rfl ?_
          try simp only [Act.put, List.setIfInBounds_toArray, List.set_cons_zero, List.set_cons_succ]
          refine last_ (i := 5) (oi := ({ dst := some 77, op := Op.call { callee := Callee.value (Operand.func 20), args := #[Operand.tmp 72, Operand.tmp 76], argTypes := #[50, 53] }, type := 4, pos := "outright.go:182", after := #[{ on := 0, ground := Ground.data }, { on := 4, ground := Ground.data }], guard := Option.none } : Oper)) (N := some 77) #[true, true, true, true, true, true, false] rfl rfl (by kernel_rfl) (by decide) ?_
          intro KK hKK
          refine goes_ Try.func20 (by kernel_rfl) rfl #[wV g2 r2, y.val] (wanted_none rfl) rfl rfl (by simp [Act.eval]) ?_
          refine (bstep_any y wr.drew (hB2.grew (Keeps.refl None wr).drew) hyw (by omega)).mono ?_
          rintro e wb ⟨rfl, d', hB', hG⟩
          refine ⟨_, rfl, hKK.out _ _ ?_⟩
          try simp only [Act.put, List.setIfInBounds_toArray, List.set_cons_zero, List.set_cons_succ]
          refine pure_ (i := 6) (N := some 78) (v := .bool false) #[true, true, true, true, true, true, true] rfl rfl (by kernel_rfl) (fun _ _ _ h => h) (Or.inl ⟨wanted_none rfl, fun w => by go_simp⟩) rfl ?_
          try simp only [Act.put, List.setIfInBounds_toArray, List.set_cons_zero, List.set_cons_succ]
          refine done_ (by kernel_rfl) ?_
          go_wp2_with fail
          go_roundw
          case rel => exact ⟨i, j + 1, d1, d', by omega, by omega, by have := HS.out; omega, by go_num, by go_num, by have := HS.out; go_num, hW.right (hB'.mono (by omega)) hG.drewn⟩
          case measure => have := HS.out; simp [intOf]; omega
end Go.Proofs.Ytcplogdaepmpnaa
