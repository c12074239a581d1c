/- NetSeqs, walked. -/
import Derived.Test.YtcplogdaepmpnaaNSeqsState
import Derived.Laws.EntriesVeiled
namespace Go.Proofs.Ytcplogdaepmpnaa
open Go.RowKit Go.Shelf Go.Maps Go.ChangeMaps Go.WideElems Go.Proofs.YtcplogdaepmpnaaW.PrintLast
attribute [local go_sem] Oper.semAt_some

/-- The law's own four boxes, and that neither net writes them. -/
structure Four (g m1 m2 r : Nat) (M : Option Addr) (nM capM : Nat) (stop : Int) (bm bst bR bW : Nat) (d : Bd) (w : World) : Prop where
  fm : Blk w bm 44 [.slice M nM capM]
  fs : Blk w bst 3 [.int .i64 stop]
  fr : Blk w bR 4 [.bool false]
  fw : Blk w bW 50 [.pointer (some ⟨g, 0, Option.none⟩), .pointer (some ⟨r, 0, Option.none⟩)]
  off : ∀ b, b = bm ∨ b = bst ∨ b = bR ∨ b = bW → ¬ MineB g m1 m2 r d b
theorem Four.lt {g m1 m2 r nM capM bm bst bR bW : Nat} {M : Option Addr} {stop : Int} {d : Bd} {w : World} (h : Four g m1 m2 r M nM capM stop bm bst bR bW d w) : ∀ b, b = bm ∨ b = bst ∨ b = bR ∨ b = bW → b < w.heap.size := fun b hb => by
  rcases hb with e | e | e | e
  · rw [e]; exact h.fm.lt
  · rw [e]; exact h.fs.lt
  · rw [e]; exact h.fr.lt
  · rw [e]; exact h.fw.lt
theorem Four.keeps {S : Nat → Prop} {g m1 m2 r nM capM bm bst bR bW : Nat} {M : Option Addr} {stop : Int} {d d' : Bd} {w w' : World} (h : Four g m1 m2 r M nM capM stop bm bst bR bW d w) (hk : Keeps S w w') (hS : ∀ b, b = bm ∨ b = bst ∨ b = bR ∨ b = bW → ¬ S b)
    (ho : ∀ b, b = bm ∨ b = bst ∨ b = bR ∨ b = bW → ¬ MineB g m1 m2 r d' b) : Four g m1 m2 r M nM capM stop bm bst bR bW d' w' :=
  ⟨h.fm.keeps hk (hS _ (.inl rfl)), h.fs.keeps hk (hS _ (.inr (.inl rfl))), h.fr.keeps hk (hS _ (.inr (.inr (.inl rfl)))), h.fw.keeps hk (hS _ (.inr (.inr (.inr rfl)))), ho⟩
theorem Four.goes {g m1 m2 r nM capM bm bst bR bW : Nat} {M : Option Addr} {stop : Int} {d d' : Bd} {w w' : World} (h : Four g m1 m2 r M nM capM stop bm bst bR bW d w) (hG : Goes g m1 m2 r d d' w w') : Four g m1 m2 r M nM capM stop bm bst bR bW d' w' :=
  h.keeps hG.keeps h.off (fun b hb => hG.off (h.off b hb) (h.lt b hb))

theorem Sea.four {w0 ws w : World} {n g m1 m2 r nM capM bm bst bR bW : Nat} {M : Option Addr} {stop : Int} {ds d : Bd} (h : Sea w0 ws n g m1 m2 r ds d w) (hF : Four g m1 m2 r M nM capM stop bm bst bR bW ds ws) : Four g m1 m2 r M nM capM stop bm bst bR bW d w :=
  hF.keeps h.keeps (fun b hb => h.low (hF.lt b hb) (hF.off b hb)) (fun b hb e => by
    rcases h.new b e with q | q
    · exact hF.off b hb q
    · have := hF.lt b hb; omega)

/-- What the walk owes where nothing panics. -/
def NoPanic (Q : Exit → Act → World → Prop) : Exit → Act → World → Prop
  | .panic _, _, _ => False
  | .outgrown, _, _ => False
  | e, a, w => Q e a w
theorem NoPanic.le {Q : Exit → Act → World → Prop} {e : Exit} {a : Act} {w : World} (h : NoPanic Q e a w) : Q e a w := by
  cases e with
  | panic _ => exact h.elim
  | outgrown => exact h.elim
  | _ => exact h
theorem results_n (tmps : Array Value) (w : World) (k : Nat) (b : Bool) (hp : tmps.getD 6 undef = .pointer (some ⟨k, 0, Option.none⟩)) (hc : w.cell? ⟨k, 0, Option.none⟩ = some (.bool b)) :
    (results Try.f7 tmps).run Try.prog w = .ok (.bool b) w := by
  have hp' : tmps[6]?.getD undef = .pointer (some ⟨k, 0, Option.none⟩) := by simpa using hp
  simp [results, Try.results7, go_sem, hp', hc, asAddr]

set_option maxRecDepth 100000 in
set_option maxHeartbeats 8000000 in
theorem netseqs_any (A : Option Addr) (n cap : Nat) (its : List Stp) (M : Option Addr) (nM capM : Nat) (mts : List Stp) (stop : Int) (w : World) (hA : StpsAt w A its) (hR : ∀ x ∈ its, x.Raw w) (hn : its.length = n) (hr : n ≤ 140737488351232)
    (hM : StpsAt w M mts) (hRM : ∀ x ∈ mts, x.Raw w) (hnM : mts.length = nM) (hrM : nM ≤ 140737488351232) (hst : IntV stop) :
    Calls Try.prog 7 #[.slice A n cap, .slice M nM capM, .int .i64 stop] w fun e w' => e = .returned (.bool true) ∧ Keeps None w w' := by
  subst hn
  have k0 := (((Keeps.refl None w).alloc (.cells #[.slice M nM capM] 44)).alloc (.cells #[.int .i64 stop] 3)).alloc (.cells #[.bool false] 4)
  have hbm := ((Blk.new w 44 [.slice M nM capM]).alloc (.cells #[.int .i64 stop] 3)).alloc (.cells #[.bool false] 4)
  have hbs : Blk (((w.alloc (.cells #[.slice M nM capM] 44)).alloc (.cells #[.int .i64 stop] 3)).alloc (.cells #[.bool false] 4)) (w.heap.size + 1) 3 [.int .i64 stop] := by
    have := (Blk.new (w.alloc (.cells #[.slice M nM capM] 44)) 3 [.int .i64 stop]).alloc (.cells #[.bool false] 4)
    simpa using this
  have hbR : Blk (((w.alloc (.cells #[.slice M nM capM] 44)).alloc (.cells #[.int .i64 stop] 3)).alloc (.cells #[.bool false] 4)) (w.heap.size + 2) 4 [.bool false] := by
    have := Blk.new ((w.alloc (.cells #[.slice M nM capM] 44)).alloc (.cells #[.int .i64 stop] 3)) 4 [.bool false]
    simpa using this
  refine (callsIn_wide (n := 9)).1 ?_
  refine callsIn_of_wp_marks Try.func7 rfl trivial ?_ rfl
  refine wpIn_mono (Q := NoPanic _) ?_ (fun e a w h => NoPanic.le h)
  refine wpIn_wide.2 ?_
  simp only [Try.ntmps7, List.size_toArray, List.length_cons, List.length_nil, Nat.reduceAdd, Nat.reduceSub, Array.replicate_succ, Array.replicate_zero, List.push_toArray, List.append_toArray, List.nil_append, List.cons_append]
  go_upto_region 1 with (fail)
  obtain ⟨wP, eP⟩ : ∃ wP, wP = ((w.alloc (.cells #[.slice M nM capM] 44)).alloc (.cells #[.int .i64 stop] 3)).alloc (.cells #[.bool false] 4) := ⟨_, rfl⟩
  rw [← eP] at k0 hbm hbs hbR ⊢
  clear eP
  have hRl := hbR.lt
  go_wp2_with fail
  refine (nnew_any wP).mono ?_
  rintro e w1 ⟨g, m1, m2, rfl, hN, hk1⟩
  have hgl := hN.blk.lt
  have hm1 := hN.sent.lt
  have hm2 := hN.many.lt
  have hk0s := k0.size
  have hgg := hN.hg
  have hN' : Nt w1 g w.heap.size (.slice Option.none 0 0) m1 m2 [] 0 (fun _ => 0) (fun _ => 0) := ⟨hN.blk, World.ownsRow_nil _ _ _ _, fun x hx => (by cases hx), hN.apart, hN.sent, hN.many, hN.most, by omega, hN.ne⟩
  have hbr := (Blk.new w1 48 [.slice Option.none 0 0, .slice Option.none 0 0]).alloc (.cells #[.pointer (some ⟨g, 0, Option.none⟩), .pointer (some ⟨w1.heap.size, 0, Option.none⟩)] 50)
  have hk2 := ((Keeps.refl None w1).alloc (.cells #[.slice Option.none 0 0, .slice Option.none 0 0] 48)).alloc (.cells #[.pointer (some ⟨g, 0, Option.none⟩), .pointer (some ⟨w1.heap.size, 0, Option.none⟩)] 50)
  have hbW : Blk ((w1.alloc (.cells #[.slice Option.none 0 0, .slice Option.none 0 0] 48)).alloc (.cells #[.pointer (some ⟨g, 0, Option.none⟩), .pointer (some ⟨w1.heap.size, 0, Option.none⟩)] 50)) (w1.heap.size + 1) 50 [.pointer (some ⟨g, 0, Option.none⟩), .pointer (some ⟨w1.heap.size, 0, Option.none⟩)] := by
    have := Blk.new (w1.alloc (.cells #[.slice Option.none 0 0, .slice Option.none 0 0] 48)) 50 [.pointer (some ⟨g, 0, Option.none⟩), .pointer (some ⟨w1.heap.size, 0, Option.none⟩)]
    simpa using this
  have hkw1 := k0.trans hk1
  have hB0 := Bo.new hN' hkw1 hk2 hbr hkw1.size
  have hbm2 := (hbm.grew hk1).grew hk2
  have hbs2 := (hbs.grew hk1).grew hk2
  have hbR2 := (hbR.grew hk1).grew hk2
  go_wp2_with fail
  obtain ⟨w2, ew2⟩ : ∃ w2, w2 = ((w1.alloc (.cells #[.slice Option.none 0 0, .slice Option.none 0 0] 48)).alloc (.cells #[.pointer (some ⟨g, 0, Option.none⟩), .pointer (some ⟨w1.heap.size, 0, Option.none⟩)] 50)) := ⟨_, rfl⟩
  rw [← ew2] at hbr hk2 hbW hB0 hbm2 hbs2 hbR2 ⊢
  clear ew2
  have hsz := hk2.size
  have hbWl := hbW.lt
  have hs1 := hk1.size
  have hlow : ∀ b, b < g ∧ b < m1 ∧ b < m2 ∧ b < w1.heap.size ∨ b = w1.heap.size + 1 → ¬ MineB g m1 m2 w1.heap.size dNil b := fun b hb e => by
    rcases mine_nil e with e | e | e | e <;> omega
  have hoff : ¬ MineB g m1 m2 w1.heap.size dNil (w1.heap.size + 1) := fun e => by rcases mine_nil e with e | e | e | e <;> omega
  have hoff1 : ¬ MineB g m1 m2 w1.heap.size dNil w.heap.size := fun e => by rcases mine_nil e with e | e | e | e <;> omega
  have hoff2 : ¬ MineB g m1 m2 w1.heap.size dNil (w.heap.size + 1) := fun e => by rcases mine_nil e with e | e | e | e <;> omega
  have hoff3 : ¬ MineB g m1 m2 w1.heap.size dNil (w.heap.size + 2) := fun e => by rcases mine_nil e with e | e | e | e <;> omega
  obtain ⟨bW, ebW⟩ : ∃ bW, bW = w1.heap.size + 1 := ⟨_, rfl⟩
  obtain ⟨r, er⟩ : ∃ r, r = w1.heap.size := ⟨_, rfl⟩
  obtain ⟨bm, ebm⟩ : ∃ b, b = w.heap.size := ⟨_, rfl⟩
  obtain ⟨bst, ebs⟩ : ∃ b, b = w.heap.size + 1 := ⟨_, rfl⟩
  obtain ⟨bR, ebR⟩ : ∃ b, b = w.heap.size + 2 := ⟨_, rfl⟩
  rw [← ebR, ← ebs, ← ebW, ← er]
  rw [← ebW] at hbW hoff
  rw [← er] at hbW hoff hoff1 hoff2 hoff3 hB0
  rw [← ebs] at hbs2 hoff2
  rw [← ebR] at hbR2 hoff3
  obtain ⟨d0, ed0⟩ : ∃ d0 : Bd, d0 = dNil := ⟨_, rfl⟩
  rw [← ed0] at hoff hoff1 hoff2 hoff3
  have hB00 : Bo w 0 g m1 m2 r dNil _ := hB0
  rw [← ed0] at hB00
  have hF0 : Four g m1 m2 r M nM capM stop w.heap.size bst bR bW d0 _ := ⟨hbm2, hbs2, hbR2, hbW, fun b hb => by
    rcases hb with e | e | e | e
    · rw [e]; exact hoff1
    · rw [e]; exact hoff2
    · rw [e]; exact hoff3
    · rw [e]; exact hoff⟩
  have hRge : w.heap.size ≤ bR := by omega
  clear ed0 hB0 hbm2 hbs2 hbR2 hbW hoff hoff1 hoff2 hoff3 ebW er ebs ebR ebm hlow hbr hgl hm1 hm2 hN hN' hsz hbWl hs1 hgg hk0s hRl hbm hbs hbR hk1 hk2 hkw1 k0
  have hcW0 := hF0.fw.cell 0 _ rfl
  go_loopw [8] (fun i wr => ∃ (k : Nat) (d : Bd), k ≤ its.length ∧ k ≤ 300 ∧ i = .int .i64 k ∧ Bo w (140 * k) g m1 m2 r d wr ∧ Four g m1 m2 r M nM capM stop w.heap.size bst bR bW d wr) (fun i _ => its.length - (intOf i).toNat)
  case atStart => exact ⟨0, d0, Nat.zero_le _, by omega, rfl, hB00, hF0⟩
  case round =>
    clear hB00 hF0 hcW0
    obtain ⟨k, d, hk, hk3, rfl, hB, hF⟩ := hrel
    have cW0 := hF.fw.cell 0 _ rfl
    have cW1 := hF.fw.cell 1 _ rfl
    rcases (by omega : (k < its.length ∧ k < 300) ∨ ¬ k < its.length ∨ (k < its.length ∧ ¬ k < 300)) with hgo | hend | hend
    · obtain ⟨hlt, h300⟩ := hgo
      obtain ⟨x, hx⟩ : ∃ x, its[k]? = some x := ⟨_, List.getElem?_eq_getElem hlt⟩
      have hxw := hR x (List.mem_of_getElem? hx)
      obtain ⟨b, o, rfl, hxc⟩ := hA.grew hB.keeps k x hx
      go_wp2_with fail
      refine start_ (ds := [5]) (S := (fun w' => Keeps None wr w')) #[false, false, false, false, false, false, false] (by kernel_rfl) rfl rfl ((Keeps.refl _ _).drew) (fun hS0 => ?_)
      refine take_ (i := 0) (N := some 33) (v := wV g r) #[true, false, false, false, false, false, false] rfl rfl (by kernel_rfl) (fun _ _ _ h => h) (Or.inl ⟨wanted_none rfl, by intro w' hSw; have q0 := hSw.cell cW0 id; have q1 := hSw.cell cW1 id; simp only [wV]; go_simp⟩) hS0 rfl ?_
      try simp only [Act.put, List.setIfInBounds_toArray, List.set_cons_zero, List.set_cons_succ]
      refine pure_ (i := 1) (N := some 34) (v := .slice (some ⟨b, o, Option.none⟩) its.length cap) #[true, true, false, false, false, false, false] rfl rfl (by kernel_rfl) (fun _ _ _ h => h) (Or.inl ⟨wanted_none rfl, fun w => by rfl⟩) rfl ?_
      try simp only [Act.put, List.setIfInBounds_toArray, List.set_cons_zero, List.set_cons_succ]
      refine pure_ (i := 2) (N := some 35) (v := .int .i64 (k : Int)) #[true, true, true, false, false, false, false] rfl rfl (by kernel_rfl) (fun _ _ _ h => h) (Or.inl ⟨wanted_none rfl, fun w => by rfl⟩) rfl ?_
      try simp only [Act.put, List.setIfInBounds_toArray, List.set_cons_zero, List.set_cons_succ]
      refine pure_ (i := 3) (N := some 36) (v := .pointer (some ⟨b, o + k * 7, Option.none⟩)) #[true, true, true, true, false, false, false] rfl rfl (by kernel_rfl) (fun _ _ _ h => h) (Or.inl ⟨wanted_none rfl, fun w => by go_simp⟩) rfl ?_
      try simp only [Act.put, List.setIfInBounds_toArray, List.set_cons_zero, List.set_cons_succ]
      refine take_ (i := 4) (N := some 37) (v := x.val) #[true, true, true, true, true, false, false] rfl rfl (by kernel_rfl) (fun _ _ _ h => h) (Or.inl ⟨wanted_none rfl, by intro w' hSw; exact exec_load_stp (.tmp 36) rfl b (o + k * 7) x rfl (fun i v hv => hSw.cell (hxc i v hv) id)⟩) hS0 rfl ?_
      try simp only [Act.put, List.setIfInBounds_toArray, List.set_cons_zero, List.set_cons_succ]
      refine last_ (i := 5) (oi := ({ dst := some 38, op := Op.call { callee := Callee.value (Operand.func 20), args := #[Operand.tmp 33, Operand.tmp 37], argTypes := #[50, 53] }, type := 4, pos := "outright.go:131", after := #[{ on := 0, ground := Ground.data }, { on := 4, ground := Ground.data }], guard := Option.none } : Oper)) (N := some 38) #[true, true, true, true, true, true, false] rfl rfl (by kernel_rfl) (by decide) ?_
      intro KK hKK
      refine goes_ Try.func20 (by kernel_rfl) rfl #[wV g r, x.val] (wanted_none rfl) rfl rfl (by simp [Act.eval]) ?_
      refine (bstep_any x wr.drew (hB.grew (Keeps.refl None wr).drew) hxw (by omega)).mono ?_
      rintro e wb ⟨rfl, d', hB', hG⟩
      refine ⟨_, rfl, hKK.out _ _ ?_⟩
      try simp only [Act.put, List.setIfInBounds_toArray, List.set_cons_zero, List.set_cons_succ]
      refine pure_ (i := 6) (N := some 39) (v := .bool false) #[true, true, true, true, true, true, true] rfl rfl (by kernel_rfl) (fun _ _ _ h => h) (Or.inl ⟨wanted_none rfl, fun w => by go_simp⟩) rfl ?_
      try simp only [Act.put, List.setIfInBounds_toArray, List.set_cons_zero, List.set_cons_succ]
      refine done_ (by kernel_rfl) ?_
      go_wp2_with fail
      go_roundw
      case rel => exact ⟨k + 1, d', by omega, by omega, by go_num, hB'.mono (by omega), (hF.keeps (Keeps.refl None wr).drew (fun _ _ f => f) hF.off).goes hG⟩
      case measure => simp [intOf]; omega
    all_goals
      have hBn : Bo w 42000 g m1 m2 r d wr := hB.mono (by omega)
      have hll := hBn.lens
      have hmostn := hBn.net.most
      have hLR : d.LR.length ≤ 42000 := by omega
      obtain ⟨Ar, cr, erv⟩ := owns_slice hBn.ref.row
      have kq : Keeps None wr (wr.alloc (.cells #[] 33)) := (Keeps.refl None wr).alloc _
      have hBq := hBn.grew kq
      have hrowq := hBq.ref.row
      have cr0 := hBq.ref.blk.cell 0 _ rfl
      rw [erv] at cr0 hrowq
      have cWq1 := (hF.fw.grew kq).cell 1 _ rfl
      have hE0 := Blk.new wr 33 []
      have hown0 : (wr.alloc (.cells #[] 33)).ownsRow wr.heap.size 33 6 (.slice (some ⟨wr.heap.size, 0, Option.none⟩) 0 0) 0 [] :=
        ⟨by simp, .inr ⟨wr.heap.size, 0, #[], rfl, Nat.le_refl _, hE0.raw, Nat.le_refl _, by unfold maxLen; omega, by simp, by simp⟩⟩
      have hsrcR : 0 < (Way.cells d.LR).length → ∃ ad, Ar = some ad ∧ ∀ j u, (Way.cells d.LR)[j]? = some u → (wr.alloc (.cells #[] 33)).cell? (ad.add j) = some u := fun h0 => by
        rcases hrowq.2 with ⟨e, hz⟩ | ⟨gr, cap', cur, e, _⟩
        · rw [Way.cells_length] at h0; omega
        · cases e
          exact ⟨_, rfl, fun j u hu => by rw [Addr.add_lit]; exact row_cells hrowq j u hu⟩
      have hnilR : Ar = Option.none → cr = 0 := fun e => by
        rcases hrowq.2 with ⟨e', _⟩ | ⟨gr, cap', cur, e', _⟩
        · simp at e'; exact e'.2.2
        · simp at e'; rw [e] at e'; exact absurd e'.1 (by simp)
      have honeR : ∀ u ∈ Way.cells d.LR, u.oneCell' = true := fun u hu => by
        obtain ⟨y, hy, hq⟩ := List.mem_flatMap.1 hu
        exact Pk.cells_one (by obtain ⟨A', c', e'⟩ := hBn.ref.data y hy; rw [e']; rfl) u hq
      have hclR : (Way.cells d.LR).length = d.LR.length * 6 := Way.cells_length _
      have HCL := Lib.hid hclR
      have HRV := Lib.hid erv
      clear hclR erv
      obtain ⟨i0, hi, hz0, hz1, hz2⟩ := info_parts infoPkAll
      go_wp2_with (at_builtin; refine wpList_append_row _ rfl (.tmp 40) (.tmp 45) 39 rfl wr.heap.size 33 i0 _ 6 64 Try.underlying39 hi hz0 hz1 hz2 rfl (by decide) (.slice (some ⟨wr.heap.size, 0, Option.none⟩) 0 0) 0 [] rfl hown0 Ar d.LR.length cr (Way.cells d.LR) rfl HCL.out hnilR hsrcR honeR (by unfold maxLen; omega) (by omega) (by simp) ?_; intro vw w3 hown3 hk3 hloc3; obtain ⟨Aw, cw, rfl⟩ := owns_slice hown3; have hk3n : Keeps None wr w3 := kq.andThen hk3 (fun i hi e => by have e2 := Option.some.inj e; simp only at e2; omega); have hB4 := (hBn.grew hk3n).grew ((Keeps.refl None w3).alloc (.cells #[.slice Aw d.LR.length cw] 39)); have hF4 := (hF.keeps hk3n (fun _ _ f => f) hF.off).keeps ((Keeps.refl None w3).alloc (.cells #[.slice Aw d.LR.length cw] 39)) (fun _ _ f => f) hF.off; have cW40 := hF4.fw.cell 0 _ rfl)
      have hws3 := hk3n.size
      refine (under_any g w.heap.size d.v m1 m2 d.L 42000 d.sn d.mn _ hB4.net (by omega)).mono ?_
      rintro e w5 ⟨bs, As, cs, rfl, hS5, hk5, hbs5, hAb5⟩
      have hlt := hBn.lt
      have hbw3 : Blk (w3.alloc (.cells #[.slice Aw d.LR.length cw] 39)) w3.heap.size 39 [.slice Aw d.LR.length cw] := Blk.new w3 39 [.slice Aw d.LR.length cw]
      have hsz4 : w3.heap.size < (w3.alloc (.cells #[.slice Aw d.LR.length cw] 39)).heap.size := hbw3.lt
      have hk6 := (Keeps.refl None w5).alloc (.cells #[(.func (.func 42) #[] #[.pointer (some ⟨bs, 0, Option.none⟩)])] 59)
      have hbq6 := Blk.new w5 59 [(.func (.func 42) #[] #[.pointer (some ⟨bs, 0, Option.none⟩)])]
      have hs5 := hk5.size
      have hw6 : w5.heap.size < (w5.alloc (.cells #[(.func (.func 42) #[] #[.pointer (some ⟨bs, 0, Option.none⟩)])] 59)).heap.size := hbq6.lt
      have hBs := (hB4.grew hk5).grew hk6
      have hFs := (hF4.keeps hk5 (fun _ _ f => f) hF.off).keeps hk6 (fun _ _ f => f) hF.off
      have hSs := hS5.grew hk6
      have hws := (owns_grew (owns_grew (owns_grew hown3 ((Keeps.refl None w3).alloc (.cells #[.slice Aw d.LR.length cw] 39))) hk5) hk6)
      have hbws := (hbw3.grew hk5).grew hk6
      simp only [List.nil_append, Nat.zero_add] at hws
      obtain ⟨ws, ews⟩ : ∃ ws, ws = w5.alloc (.cells #[(.func (.func 42) #[] #[.pointer (some ⟨bs, 0, Option.none⟩)])] 59) := ⟨_, rfl⟩
      have hq := eq_nilSeq ws (.func 42) #[] #[.pointer (some ⟨bs, 0, Option.none⟩)]
      rw [← ews] at hbq6 hBs hFs hSs hws hbws hw6 hk6
      have hoffw : ∀ b, wr.heap.size ≤ b → ¬ MineB g m1 m2 r d b := fun b hb e => by have := (hlt b e).2; omega
      have cq6 := hbq6.cell 0 _ rfl
      have HWS := Lib.hid ews
      clear ews
      go_upto_region 11 with (fail)
      rw [← HWS.out]
      clear HWS
      have h7 := Blk.new ws 3 [.int .i64 0]
      have k7 := (Keeps.refl None ws).alloc (.cells #[.int .i64 0] 3)
      go_wp2_with fail
      have hwws : w.heap.size ≤ ws.heap.size := hBs.keeps.size
      have hSea0 := (Sea.start hBs).grew k7
      refine wp_loop (fun a W => ∃ (t : Nat) (d' : Bd) (b11 : Nat) (Ds : List Nat) (x26 x27 x28 x29 x30 x12 x52 x53 x54 x55 x56 x116 x117 x118 x119 x120 x121 x122 x123 x124 : Value), a = { tmps := #[Value.slice A its.length cap, Value.slice M nM capM, Value.int IntKind.i64 stop, undef, Value.pointer (some { block := w.heap.size, off := 0 }), Value.pointer (some { block := bst, off := 0 }), Value.pointer (some { block := bR, off := 0 }), Value.pointer (some { block := bW, off := 0 }), Value.int IntKind.i64 ↑k, Value.pointer (some { block := w3.heap.size, off := 0 }), Value.pointer (some { block := w5.heap.size, off := 0 }), Value.pointer (some { block := b11, off := 0 }), x12, undef, undef, undef, Value.pointer (some { block := g, off := 0 }), Value.agg #[Value.slice none 0 0, Value.slice none 0 0], Value.pointer (some { block := r, off := 0 }), Value.agg #[Value.pointer (some { block := g, off := 0 }), Value.pointer (some { block := r, off := 0 })], Value.pointer (some { block := bW, off := 0 }), Value.pointer (some { block := g, off := 0 }), Value.bool false, Value.int IntKind.i64 ↑k, Value.slice A its.length cap, Value.int IntKind.i64 ↑its.length, x26, x27, x28, x29, x30, u31, u32, u33, u34, u35, u36, u37, u38, u39, Value.slice (some { block := wr.heap.size, off := 0 }) 0 0, Value.pointer (some { block := bW, off := 1 }), Value.pointer (some { block := r, off := 0 }), Value.pointer (some { block := r, off := 0 }), Value.pointer (some { block := r, off := 0 }), Value.slice Ar (List.length d.LR) cr, Value.slice Aw (List.length d.LR) cw, Value.pointer (some { block := bW, off := 0 }), Value.pointer (some { block := g, off := 0 }), Value.func (.func 42) #[] #[Value.pointer (some { block := bs, off := 0 })], Value.func (.func 42) #[] #[Value.pointer (some { block := bs, off := 0 })], Value.bool false, x52, x53, x54, x55, x56, undef, undef, undef, undef, undef, undef, undef, undef, undef, undef, undef, undef, undef, undef, undef, undef, undef, undef, undef, undef, undef, undef, undef, undef, undef, undef, undef, undef, undef, undef, undef, undef, undef, undef, undef, undef, undef, undef, undef, undef, undef, undef, undef, undef, undef, undef, undef, undef, undef, undef, undef, undef, undef, undef, undef, undef, undef, undef, undef, x116, x117, x118, x119, x120, x121, x122, x123, x124, undef, undef, undef, undef, undef], defers := cols Ds } ∧ t ≤ 2 ∧ Sea w ws (42000 + 5880000 * t) g m1 m2 r d d' W ∧ Blk W b11 3 [.int .i64 t] ∧ ws.heap.size ≤ b11 ∧ Marks ws Ds W ∧ Ds.length = t) (fun a _ => 3 - a.defers.length) ?start ?round
      case start => exact ⟨0, d, ws.heap.size, [], _, _, _, _, _, _, _, _, _, _, _, _, _, _, _, _, _, _, _, _, rfl, by omega, hSea0, h7, Nat.le_refl _, ⟨fun D hD => (by cases hD), .nil⟩, rfl⟩
      case round =>
        rintro a7 W7 ⟨t, d', b11, Ds, x26, x27, x28, x29, x30, x12, x52, x53, x54, x55, x56, x116, x117, x118, x119, x120, x121, x122, x123, x124, rfl, ht, hSea, hb11, hl11, hMk, hDl⟩
        have hoffq : ¬ MineB g m1 m2 r d w5.heap.size := hoffw _ (by omega)
        have hoff3 : ¬ MineB g m1 m2 r d w3.heap.size := hoffw _ (by omega)
        have cqW := hSea.keeps.cell cq6 (hSea.low hw6 hoffq)
        have ct7 := hb11.cell 0 _ rfl
        by_cases ht2 : t < 2
        · have hb12 := Blk.new W7 3 [.int .i64 0]
          have k12 := (Keeps.refl None W7).alloc (.cells #[.int .i64 0] 3)
          have cqW2 := k12.cell cqW id
          go_wp2_with fail
          obtain ⟨b12, eb12⟩ : ∃ b, b = W7.heap.size := ⟨_, rfl⟩
          obtain ⟨wB, ewB⟩ : ∃ wB, wB = W7.alloc (.cells #[.int .i64 0] 3) := ⟨_, rfl⟩
          rw [← ewB] at hb12 k12 cqW2 ⊢
          rw [← eb12] at hb12 ⊢
          have hl12 : ws.heap.size ≤ b12 := by rw [eb12]; exact hSea.keeps.size
          have h1211 : b12 ≠ b11 := by rw [eb12]; have := hb11.lt; omega
          clear ewB eb12
          have hI0 : Iout w ws (42000 + 5880000 * t + 140 * 0) g m1 m2 r d t b11 b12 Ds 0 d' wB := ⟨hSea.grew k12, hb12, hb11.grew k12, hMk.keeps k12 (fun _ _ f => f)⟩
          have hwsB : ws.heap.size ≤ wB.heap.size := hI0.sea.keeps.size
          have hz : ∀ x ∈ d.L, x.2.length ≤ 140737488351232 := fun x hx => (hBs.ok x hx).2.2
          have hdL : d.L.length ≤ 42000 := by omega
          have ho1 : ¬ MineB g m1 m2 r d bs := hoffw _ (by omega)
          have ho2 : ∀ b o, As = some ⟨b, o, Option.none⟩ → ¬ MineB g m1 m2 r d b := fun b o e => hoffw _ (by have := hAb5 b o e; omega)
          have ho3 : ∀ x ∈ d.L, ∀ Ax cx, x.1.dv = .slice Ax x.2.length cx → Off Ax (fun b => MineB g m1 m2 r d b ∨ ws.heap.size ≤ b) := hBs.bytes_off
          have hSeq : ∀ {d2 : Bd} {m : Nat} {W : World}, Sea w ws m g m1 m2 r d d2 W → SeqSt W bs As cs d.L := fun h => h.seq hSs ho1 ho2 ho3
          have hSrec : ∀ {W W' : World} {l : Nat}, SeqSt W bs As cs d.L → Keeps (One l) W W' → ws.heap.size ≤ l → SeqSt W' bs As cs d.L := fun {W W' l} h hk hl => hSs.beside h hk (fun b e => .inl (by simp only [One] at e; omega))
          refine (wpIn_wide (n := 9)).1 ?_
          refine range_good2 (F := Fence.wide) rfl (by omega) (gf := 42) (lb := #[.pointer (some ⟨bs, 0, Option.none⟩)]) rfl trivial (enters_of Try.func42 (by kernel_rfl) rfl)
            (under1_seq 8 (by omega) bs As cs d.L (by omega) hz) (fun _ => rfl) wB.heap.size rfl
            (fun pre W => ∃ d2 : Bd, Iout w ws (42000 + 5880000 * t + 140 * pre.length) g m1 m2 r d t b11 b12 Ds pre.length d2 W ∧ ¬ MineB g m1 m2 r d2 wB.heap.size)
            (fun c pre W => c = .exit 4 ∧ t = 0 ∧ ∃ d2 : Bd, Iout w ws (42000 + 5880000 * t + 140 * pre.length) g m1 m2 r d t b11 b12 Ds pre.length d2 W ∧ pre.length ≤ d.L.length)
            (fun b => b ≠ wB.heap.size ∧ b ≠ wB.heap.size + 1) ⟨fun e => e.1 rfl, fun e => e.2 rfl⟩
            (fun A C h hk => by obtain ⟨d2, h, hm⟩ := h; exact ⟨d2, h.grew hk, hm⟩)
            (fun pre A C h hr hk => by obtain ⟨d2, h, hm⟩ := h; exact ⟨d2, h.rec_ hr hk (by omega) hwws, hm⟩)
            (fun pre A C h hk => by obtain ⟨d2, h, hm⟩ := h; exact ⟨d2, h.grew hk, hm⟩)
            (fun c pre A C h hr hk => by obtain ⟨h1, h2, d2, h, h3⟩ := h; exact ⟨h1, h2, d2, h.rec_ hr hk (by omega) hwws, h3⟩)
            (fun A C h hr hk => hSrec h hk (by omega)) (fun A C h hk => h.grew hk) ⟨d', hI0, fun e => Nat.lt_irrefl _ (hI0.sea.bo.lt _ e).2⟩ (hSeq hI0.sea)
            (fun x => #[Value.slice A its.length cap, Value.slice M nM capM, Value.int IntKind.i64 stop, undef, Value.pointer (some { block := w.heap.size, off := 0 }), Value.pointer (some { block := bst, off := 0 }), Value.pointer (some { block := bR, off := 0 }), Value.pointer (some { block := bW, off := 0 }), Value.int IntKind.i64 ↑k, Value.pointer (some { block := w3.heap.size, off := 0 }), Value.pointer (some { block := w5.heap.size, off := 0 }), Value.pointer (some { block := b11, off := 0 }), Value.pointer (some { block := b12, off := 0 }), undef, undef, undef, Value.pointer (some { block := g, off := 0 }), Value.agg #[Value.slice none 0 0, Value.slice none 0 0], Value.pointer (some { block := r, off := 0 }), Value.agg #[Value.pointer (some { block := g, off := 0 }), Value.pointer (some { block := r, off := 0 })], Value.pointer (some { block := bW, off := 0 }), Value.pointer (some { block := g, off := 0 }), Value.bool false, Value.int IntKind.i64 ↑k, Value.slice A its.length cap, Value.int IntKind.i64 ↑its.length, x26, x27, x28, x29, x30, u31, u32, u33, u34, u35, u36, u37, u38, u39, Value.slice (some { block := wr.heap.size, off := 0 }) 0 0, Value.pointer (some { block := bW, off := 1 }), Value.pointer (some { block := r, off := 0 }), Value.pointer (some { block := r, off := 0 }), Value.pointer (some { block := r, off := 0 }), Value.slice Ar (List.length d.LR) cr, Value.slice Aw (List.length d.LR) cw, Value.pointer (some { block := bW, off := 0 }), Value.pointer (some { block := g, off := 0 }), Value.func (.func 42) #[] #[Value.pointer (some { block := bs, off := 0 })], Value.func (.func 42) #[] #[Value.pointer (some { block := bs, off := 0 })], Value.bool false, Value.int IntKind.i64 ↑t, Value.bool (decide ((t : Int) < 2)), x54, x55, Value.func (.func 42) #[] #[Value.pointer (some { block := bs, off := 0 })], x.1.val, undef, undef, undef, undef, undef, undef, undef, undef, undef, undef, undef, undef, undef, undef, undef, undef, undef, undef, undef, undef, undef, undef, undef, undef, undef, undef, undef, undef, undef, undef, undef, undef, undef, undef, undef, undef, undef, undef, undef, undef, undef, undef, undef, undef, undef, undef, undef, undef, undef, undef, undef, undef, undef, undef, undef, undef, undef, undef, x116, x117, x118, x119, x120, x121, x122, x123, x124, undef, undef, undef, undef, undef]) (fun x => by simp [encsU]) ?_ ?_ ?_
          · rintro pre x W0 W ⟨d2, hI, hmB⟩ hk0' ⟨hG, hcore⟩ hSt hlen hlt
            obtain ⟨Ax, cx, hxd⟩ := hG.slice
            have hd1 : x.1.dv.oneCell' = true := by rw [hxd]; rfl
            have hIW := hI.grew hk0'
            have hwsW : ws.heap.size ≤ W.heap.size := hIW.sea.keeps.size
            have hsW := hk0'.size
            have hY0 := Blk.new W 33 [.bool false, .int .i64 0, .int .i64 0, .bool false, .int .i64 0, .slice Option.none 0 0]
            have kY := (Keeps.refl None W).alloc (.cells #[.bool false, .int .i64 0, .int .i64 0, .bool false, .int .i64 0, .slice Option.none 0 0] 33)
            obtain ⟨y, ys, Ay, cy, gw, egw, hgwb, hyp0, hyd, hyn, hxy, hzx, hlen'⟩ := pair_at hBs hws hcore hlen
            subst egw
            have hgwo : ¬ MineB g m1 m2 r d gw := hoffw _ (by omega)
            have HXY := Lib.hid hxy
            have HC := Lib.hid hcore
            have HXD := Lib.hid hxd
            have HYD := Lib.hid hyd
            have HLL := Lib.hid hll
            clear hxy hcore hxd hyd hll
            gi_wp2_with (first
              | (with_reducible refine wpListIn_store_pk rfl (.tmp 13) (.tmp 57) rfl W.heap.size x.1 rfl rfl hd1 _ hY0 rfl ?_; intro wa hBa hka))
            have kWa : Keeps None W wa := kY.andThen hka (fun i hi e => by simp only [One] at e; omega)
            refine ⟨kWa, fun w2 hr1 hr2 hkw2 => ?_⟩
            have hI2 := (hIW.grew kWa).rec_ hr1 hkw2 (by omega) hwws
            have hBa2 := hBa.keeps hkw2 (fun e => by simp only [One] at e; omega)
            have hG2 := (hG.grew kWa).keeps hkw2 (fun b hb e => by have := (hG.lt b hb).1; simp only [One] at e; omega)
            have c12 := hI2.c12.cell 0 _ rfl
            have cw2 := (hbws.keeps hI2.sea.keeps (hI2.sea.low hbws.lt hoff3)).cell 0 _ rfl
            have hyp := hyp0.keeps hI2.sea.keeps (hI2.sea.low hyp0.lt hgwo)
            have hsame : ∀ w', Keeps None w2 w' → Calls Try.prog 28 #[x.1.val, y.val] w' fun e w'' => e = .returned (.bool true) ∧ Keeps None w2 w'' := fun w' hk =>
              (same16_any x.1 y x.2 ys Ax Ay cx cy w' HXD.out HYD.out ((Nums.row (by rw [← HXD.out]; exact hG2)).1.grew hk) (hyn.grew (hI2.sea.bo.keeps.trans hk)) hzx).mono fun e w'' h => ⟨by rw [h.1]; simp [HXY.out], hk.trans h.2⟩
            gi_wp2
            refine region_round (C := fun w' => Keeps None w2 w') (by kernel_rfl) (by kernel_rfl) (by kernel_rfl) ((Keeps.refl None w2).drew) ?_
            refine q_take (N := some 58) (.int .i64 (pre.length : Int)) (wanted_none rfl) rfl (by intro w' hSw; have q := hSw.cell c12 id; go_simp) rfl ?_
            try simp only [Act.put, List.setIfInBounds_toArray, List.set_cons_zero, List.set_cons_succ]
            refine q_take (N := some 59) (.slice (some ⟨gw, 0, Option.none⟩) d.LR.length cw) (wanted_none rfl) rfl (by intro w' hSw; have q := hSw.cell cw2 id; go_simp) rfl ?_
            try simp only [Act.put, List.setIfInBounds_toArray, List.set_cons_zero, List.set_cons_succ]
            refine q_take (N := some 60) (.int .i64 (d.LR.length : Int)) (wanted_none rfl) rfl (fun w' _ => by go_simp) rfl ?_
            try simp only [Act.put, List.setIfInBounds_toArray, List.set_cons_zero, List.set_cons_succ]
            refine q_take (N := some 61) (.bool false) (wanted_none rfl) rfl (fun w' _ => by go_simp) rfl ?_
            try simp only [Act.put, List.setIfInBounds_toArray, List.set_cons_zero, List.set_cons_succ]
            refine q_take (N := some 62) (.bool false) (wanted_none rfl) rfl (fun w' _ => by rfl) rfl ?_
            try simp only [Act.put, List.setIfInBounds_toArray, List.set_cons_zero, List.set_cons_succ]
            refine q_take (N := some 63) (x.1.val) (by rfl) rfl (by intro w' hSw; exact exec_load_pk (.tmp 13) rfl W.heap.size 0 x.1 rfl (hBa2.pk.keeps hSw id)) rfl ?_
            try simp only [Act.put, List.setIfInBounds_toArray, List.set_cons_zero, List.set_cons_succ]
            refine q_take (N := some 64) (.slice (some ⟨gw, 0, Option.none⟩) d.LR.length cw) (by rfl) rfl (by intro w' hSw; have q := hSw.cell cw2 id; go_simp) rfl ?_
            try simp only [Act.put, List.setIfInBounds_toArray, List.set_cons_zero, List.set_cons_succ]
            refine q_take (N := some 65) (.int .i64 (pre.length : Int)) (by rfl) rfl (by intro w' hSw; have q := hSw.cell c12 id; go_simp) rfl ?_
            try simp only [Act.put, List.setIfInBounds_toArray, List.set_cons_zero, List.set_cons_succ]
            refine q_take (N := some 66) (.pointer (some ⟨gw, pre.length * 6, Option.none⟩)) (by rfl) rfl (fun w' _ => by go_simp) rfl ?_
            try simp only [Act.put, List.setIfInBounds_toArray, List.set_cons_zero, List.set_cons_succ]
            refine q_take (N := some 67) (y.val) (by rfl) rfl (by intro w' hSw; exact exec_load_pk (.tmp 66) rfl gw (pre.length * 6) y rfl (hyp.keeps hSw id)) rfl ?_
            try simp only [Act.put, List.setIfInBounds_toArray, List.set_cons_zero, List.set_cons_succ]
            refine q_call (N := some 68) (.bool true) 28 #[x.1.val, y.val] (by rfl) rfl (fun w' _ => ?_) (fun w' hSw => ?_) rfl ?_
            · have he := enters_of Try.func28 (by kernel_rfl) rfl #[x.1.val, y.val] w'; unfold execOp; simp [resolve, Deferred.ofValue, invoke, Act.eval, he]
            · exact hsame w' hSw
            try simp only [Act.put, List.setIfInBounds_toArray, List.set_cons_zero, List.set_cons_succ]
            refine q_take (N := some 69) (.bool false) (by rfl) rfl (fun w' _ => by go_simp) rfl ?_
            try simp only [Act.put, List.setIfInBounds_toArray, List.set_cons_zero, List.set_cons_succ]
            refine q_take (N := some 70) (.bool false) (wanted_none rfl) rfl (fun w' _ => by go_simp) rfl ?_
            try simp only [Act.put, List.setIfInBounds_toArray, List.set_cons_zero, List.set_cons_succ]
            refine wpQuietIn_nil ?_
            intro w3x hk3x
            have hI3 := hI2.grew hk3x
            have h14 := Blk.new w3x 3 [.int .i64 0]
            have k14 := (Keeps.refl None w3x).alloc (.cells #[.int .i64 0] 3)
            have cq3 := ((hbq6.keeps hI3.sea.keeps (hI3.sea.low hbq6.lt hoffq)).grew k14).cell 0 _ rfl
            gi_wp2
            obtain ⟨wI, ewI⟩ : ∃ wI, wI = w3x.alloc (.cells #[.int .i64 0] 3) := ⟨_, rfl⟩
            have hlI : w3x.heap.size < wI.heap.size := by rw [ewI]; exact h14.lt
            rw [← ewI] at h14 k14 cq3 ⊢
            clear ewI
            obtain ⟨r2, hr2'⟩ := hr2
            have hs2x := hk3x.size
            have hl0 : wI.heap[wB.heap.size + 1]? = some (.loop r2) := ((hk3x.trans k14).block _ (Array.getElem?_eq_some_iff.1 hr2').1 id).trans hr2'
            have hII := hI3.grew k14
            have hws3x : ws.heap.size ≤ w3x.heap.size := hI3.sea.keeps.size
            have h1411 : w3x.heap.size ≠ b11 := by have := hI3.c11.lt; omega
            have h1412 : w3x.heap.size ≠ b12 := by have := hI3.c12.lt; omega
            have hwB1 : wB.heap.size + 1 < w3x.heap.size := by have := (Array.getElem?_eq_some_iff.1 hr2').1; omega
            refine range_goodN (F := Fence.wide.inRound (wB.heap.size + 1)) (l₀ := wB.heap.size + 1) rfl hl0 (by omega) (gf := 42) (lb := #[.pointer (some ⟨bs, 0, Option.none⟩)]) rfl trivial (enters_of Try.func42 (by kernel_rfl) rfl)
              ((under1_seq 6 (by omega) bs As cs d.L (by omega) hz).inRound _) (fun _ => rfl) wI.heap.size rfl
              (fun pre2 Wk => Blk Wk w3x.heap.size 3 [.int .i64 (pre2.length : Int)] ∧ pre2.length ≤ 2 ∧ Keeps (fun b => b = w3x.heap.size ∨ wI.heap.size ≤ b) wI Wk)
              (fun c pre2 Wk => c = .exit 6 ∧ Keeps (fun b => b = w3x.heap.size ∨ wI.heap.size ≤ b) wI Wk)
              (fun b => b ≠ wI.heap.size) (fun e => e rfl)
              (fun A C h hk => ⟨h.1.grew hk, h.2.1, h.2.2.andThen hk (fun _ _ f => f.elim)⟩)
              (fun pre2 A C h hr hk => ⟨h.1.keeps hk (fun e => by simp only [One] at e; omega), h.2.1, h.2.2.andThen hk (fun i hi e => .inr (by simp only [One] at e; omega))⟩)
              (fun pre2 A C h hk => ⟨h.1.grew hk, h.2.1, h.2.2.andThen hk (fun _ _ f => f.elim)⟩)
              (fun c pre2 A C h hr hk => ⟨h.1, h.2.andThen hk (fun i hi e => .inr (by simp only [One] at e; omega))⟩)
              (fun A C h hr hk => hSrec h hk (by omega)) (fun A C h hk => h.grew hk) ⟨h14, Nat.zero_le _, Keeps.refl _ _⟩ (hSeq hII.sea)
              (fun u => #[Value.slice A its.length cap, Value.slice M nM capM, Value.int IntKind.i64 stop, undef, Value.pointer (some { block := w.heap.size, off := 0 }), Value.pointer (some { block := bst, off := 0 }), Value.pointer (some { block := bR, off := 0 }), Value.pointer (some { block := bW, off := 0 }), Value.int IntKind.i64 ↑k, Value.pointer (some { block := w3.heap.size, off := 0 }), Value.pointer (some { block := w5.heap.size, off := 0 }), Value.pointer (some { block := b11, off := 0 }), Value.pointer (some { block := b12, off := 0 }), Value.pointer (some { block := W.heap.size, off := 0 }), Value.pointer (some { block := w3x.heap.size, off := 0 }), undef, Value.pointer (some { block := g, off := 0 }), Value.agg #[Value.slice none 0 0, Value.slice none 0 0], Value.pointer (some { block := r, off := 0 }), Value.agg #[Value.pointer (some { block := g, off := 0 }), Value.pointer (some { block := r, off := 0 })], Value.pointer (some { block := bW, off := 0 }), Value.pointer (some { block := g, off := 0 }), Value.bool false, Value.int IntKind.i64 ↑k, Value.slice A its.length cap, Value.int IntKind.i64 ↑its.length, x26, x27, x28, x29, x30, u31, u32, u33, u34, u35, u36, u37, u38, u39, Value.slice (some { block := wr.heap.size, off := 0 }) 0 0, Value.pointer (some { block := bW, off := 1 }), Value.pointer (some { block := r, off := 0 }), Value.pointer (some { block := r, off := 0 }), Value.pointer (some { block := r, off := 0 }), Value.slice Ar (List.length d.LR) cr, Value.slice (some { block := gw, off := 0 }) (List.length d.LR) cw, Value.pointer (some { block := bW, off := 0 }), Value.pointer (some { block := g, off := 0 }), Value.func (.func 42) #[] #[Value.pointer (some { block := bs, off := 0 })], Value.func (.func 42) #[] #[Value.pointer (some { block := bs, off := 0 })], Value.bool false, Value.int IntKind.i64 ↑t, Value.bool true, x54, x55, Value.func (.func 42) #[] #[Value.pointer (some { block := bs, off := 0 })], x.1.val, Value.int IntKind.i64 ↑pre.length, Value.slice (some { block := gw, off := 0 }) (List.length d.LR) cw, Value.int IntKind.i64 ↑(List.length d.LR), Value.bool false, Value.bool false, x.1.val, Value.slice (some { block := gw, off := 0 }) (List.length d.LR) cw, Value.int IntKind.i64 ↑pre.length, Value.pointer (some { block := gw, off := pre.length * 6 }), y.val, Value.bool true, Value.bool false, Value.bool false, Value.func (.func 42) #[] #[Value.pointer (some { block := bs, off := 0 })], u.1.val, undef, undef, undef, undef, undef, undef, undef, undef, undef, undef, undef, undef, undef, undef, undef, undef, undef, undef, undef, undef, undef, undef, undef, undef, undef, undef, undef, undef, undef, undef, undef, undef, undef, undef, undef, undef, undef, undef, undef, undef, undef, undef, undef, x116, x117, x118, x119, x120, x121, x122, x123, x124, undef, undef, undef, undef, undef]) (fun u => by simp [encsU]) ?_ ?_ ?_
            · rintro pre2 u Wi0 Wi ⟨hb14, hp2, hKi⟩ hki0 ⟨hGi, hcorei⟩ hSti hleni hlti
              obtain ⟨Au, cu, hud⟩ := hGi.slice
              have hdu : u.1.dv.oneCell' = true := by rw [hud]; rfl
              have hsWi := hki0.size
              have hYi := Blk.new Wi 33 [.bool false, .int .i64 0, .int .i64 0, .bool false, .int .i64 0, .slice Option.none 0 0]
              have kYi := (Keeps.refl None Wi).alloc (.cells #[.bool false, .int .i64 0, .int .i64 0, .bool false, .int .i64 0, .slice Option.none 0 0] 33)
              obtain ⟨z, zs, Az, cz, gz, egz, hgzb, hyz0, hzd, hzn, huz, hzu, hlenz⟩ := pair_at hBs hws hcorei hleni
              cases egz
              have HUZ := Lib.hid huz
              have HCI := Lib.hid hcorei
              have HUD := Lib.hid hud
              have HZD := Lib.hid hzd
              clear huz hcorei hud hzd
              gi_wp2_with (first
                | (with_reducible refine wpListIn_store_pk rfl (.tmp 15) (.tmp 72) rfl Wi.heap.size u.1 rfl rfl hdu _ hYi rfl ?_; intro wb hBb hkb))
              have kWb : Keeps None Wi wb := kYi.andThen hkb (fun i hi e => by simp only [One] at e; omega)
              refine ⟨kWb, fun w2i hri1 hri2 hkw2i => ?_⟩
              have hKi2 : Keeps (fun b => b = w3x.heap.size ∨ wI.heap.size ≤ b) wI w2i := ((hKi.andThen hki0 (fun _ _ f => f.elim)).andThen kWb (fun _ _ f => f.elim)).andThen hkw2i (fun i hi e => .inr (by simp only [One] at e; omega))
              have hIi := hII.beside h14 hKi2 h1411 h1412 hws3x hwws
              have hsb := kWb.size
              have hBi2 := hBb.keeps hkw2i (fun e => by simp only [One] at e; omega)
              have hGi2 := (hGi.grew kWb).keeps hkw2i (fun b hb e => by have := (hGi.lt b hb).1; simp only [One] at e; omega)
              have hb2i := ((hb14.grew hki0).grew kWb).keeps hkw2i (fun e => by simp only [One] at e; omega)
              have c14 := hb2i.cell 0 _ rfl
              have cwi := (hbws.keeps hIi.sea.keeps (hIi.sea.low hbws.lt hoff3)).cell 0 _ rfl
              have hzp := hyz0.keeps hIi.sea.keeps (hIi.sea.low hyz0.lt hgwo)
              have hsame2 : ∀ w', Keeps None w2i w' → Calls Try.prog 28 #[u.1.val, z.val] w' fun e w'' => e = .returned (.bool true) ∧ Keeps None w2i w'' := fun w' hk =>
                (same16_any u.1 z u.2 zs Au Az cu cz w' HUD.out HZD.out ((Nums.row (by rw [← HUD.out]; exact hGi2)).1.grew hk) (hzn.grew (hIi.sea.bo.keeps.trans hk)) hzu).mono fun e w'' h => ⟨by rw [h.1]; simp [HUZ.out], hk.trans h.2⟩
              have hSt2i := hSeq hIi.sea
              gi_wp2
              refine region_round (C := fun w' => Keeps None w2i w') (by kernel_rfl) (by kernel_rfl) (by kernel_rfl) ((Keeps.refl None w2i).drew) ?_
              refine q_take (N := some 73) (.int .i64 (pre2.length : Int)) (wanted_none rfl) rfl (by intro w' hSw; have q := hSw.cell c14 id; go_simp) rfl ?_
              try simp only [Act.put, List.setIfInBounds_toArray, List.set_cons_zero, List.set_cons_succ]
              refine q_take (N := some 74) (.slice (some ⟨gw, 0, Option.none⟩) d.LR.length cw) (wanted_none rfl) rfl (by intro w' hSw; have q := hSw.cell cwi id; go_simp) rfl ?_
              try simp only [Act.put, List.setIfInBounds_toArray, List.set_cons_zero, List.set_cons_succ]
              refine q_take (N := some 75) (.int .i64 (d.LR.length : Int)) (wanted_none rfl) rfl (fun w' _ => by go_simp) rfl ?_
              try simp only [Act.put, List.setIfInBounds_toArray, List.set_cons_zero, List.set_cons_succ]
              refine q_take (N := some 76) (.bool false) (wanted_none rfl) rfl (fun w' _ => by go_simp) rfl ?_
              try simp only [Act.put, List.setIfInBounds_toArray, List.set_cons_zero, List.set_cons_succ]
              refine q_take (N := some 77) (.bool false) (wanted_none rfl) rfl (fun w' _ => by rfl) rfl ?_
              try simp only [Act.put, List.setIfInBounds_toArray, List.set_cons_zero, List.set_cons_succ]
              refine q_take (N := some 78) (u.1.val) (by rfl) rfl (by intro w' hSw; exact exec_load_pk (.tmp 15) rfl Wi.heap.size 0 u.1 rfl (hBi2.pk.keeps hSw id)) rfl ?_
              try simp only [Act.put, List.setIfInBounds_toArray, List.set_cons_zero, List.set_cons_succ]
              refine q_take (N := some 79) (.slice (some ⟨gw, 0, Option.none⟩) d.LR.length cw) (by rfl) rfl (by intro w' hSw; have q := hSw.cell cwi id; go_simp) rfl ?_
              try simp only [Act.put, List.setIfInBounds_toArray, List.set_cons_zero, List.set_cons_succ]
              refine q_take (N := some 80) (.int .i64 (pre2.length : Int)) (by rfl) rfl (by intro w' hSw; have q := hSw.cell c14 id; go_simp) rfl ?_
              try simp only [Act.put, List.setIfInBounds_toArray, List.set_cons_zero, List.set_cons_succ]
              refine q_take (N := some 81) (.pointer (some ⟨gw, pre2.length * 6, Option.none⟩)) (by rfl) rfl (fun w' _ => by go_simp) rfl ?_
              try simp only [Act.put, List.setIfInBounds_toArray, List.set_cons_zero, List.set_cons_succ]
              refine q_take (N := some 82) (z.val) (by rfl) rfl (by intro w' hSw; exact exec_load_pk (.tmp 81) rfl gw (pre2.length * 6) z rfl (hzp.keeps hSw id)) rfl ?_
              try simp only [Act.put, List.setIfInBounds_toArray, List.set_cons_zero, List.set_cons_succ]
              refine q_call (N := some 83) (.bool true) 28 #[u.1.val, z.val] (by rfl) rfl (fun w' _ => ?_) (fun w' hSw => ?_) rfl ?_
              · have he := enters_of Try.func28 (by kernel_rfl) rfl #[u.1.val, z.val] w'; unfold execOp; simp [resolve, Deferred.ofValue, invoke, Act.eval, he]
              · exact hsame2 w' hSw
              try simp only [Act.put, List.setIfInBounds_toArray, List.set_cons_zero, List.set_cons_succ]
              refine q_take (N := some 84) (.bool false) (by rfl) rfl (fun w' _ => by go_simp) rfl ?_
              try simp only [Act.put, List.setIfInBounds_toArray, List.set_cons_zero, List.set_cons_succ]
              refine q_take (N := some 85) (.bool false) (wanted_none rfl) rfl (fun w' _ => by go_simp) rfl ?_
              try simp only [Act.put, List.setIfInBounds_toArray, List.set_cons_zero, List.set_cons_succ]
              refine wpQuietIn_nil ?_
              intro w4 hk4
              have hb4 := hb2i.grew hk4
              have c4 := hb4.cell 0 _ rfl
              have f4 := hb4.free 0
              have hwr2 : IntKind.i64.wrap ((pre2.length : Int) + 1) = (pre2.length : Int) + 1 := by rw [IntKind.wrap_i64]; omega
              have ks : Keeps (One w3x.heap.size) w4 (w4.setCell ⟨w3x.heap.size, 0, Option.none⟩ (.int .i64 ((pre2.length : Int) + 1))) := (Keeps.refl _ _).setCell _ _ (fun _ => rfl)
              have hb5 : Blk (w4.setCell ⟨w3x.heap.size, 0, Option.none⟩ (.int .i64 ((pre2.length : Int) + 1))) w3x.heap.size 3 [.int .i64 ((pre2.length : Int) + 1)] := by
                have := hb4.set 0 (.int .i64 ((pre2.length : Int) + 1))
                simpa using this
              have c5 := hb5.cell 0 _ rfl
              have hKs : Keeps (fun b => b ≠ wI.heap.size) w2i (w4.setCell ⟨w3x.heap.size, 0, Option.none⟩ (.int .i64 ((pre2.length : Int) + 1))) := hk4.of_none.andThen ks (fun i hi e => by simp only [One] at e; omega)
              have hKI5 : Keeps (fun b => b = w3x.heap.size ∨ wI.heap.size ≤ b) wI (w4.setCell ⟨w3x.heap.size, 0, Option.none⟩ (.int .i64 ((pre2.length : Int) + 1))) := (hKi2.andThen hk4 (fun _ _ f => f.elim)).andThen ks (fun i hi e => .inl e)
              have hS5' : SeqSt (w4.setCell ⟨w3x.heap.size, 0, Option.none⟩ (.int .i64 ((pre2.length : Int) + 1))) bs As cs d.L := hSrec (hSt2i.grew hk4) ks (by omega)
              rcases (by omega : (2 : Int) < (pre2.length : Int) + 1 ∨ ¬ (2 : Int) < (pre2.length : Int) + 1) with h3' | h3'
              · gi_wp2
                exact ⟨hKs, rfl, hKI5⟩
              · gi_wp2
                exact ⟨hKs, hS5', by simpa using hb5, by simp; omega, hKI5⟩
            · rintro xs Wk hSf ⟨hb14, hp2, hKi⟩
              clear hSf hp2
              have hIk := hII.beside h14 hKi h1411 h1412 hws3x hwws
              have hFk := hIk.sea.four hFs
              have ck12 := hIk.c12.cell 0 _ rfl
              have ckm := hFk.fm.cell 0 _ rfl
              have hKk : Keeps (fun b => b ≠ wB.heap.size ∧ b ≠ wB.heap.size + 1) w2 Wk := ((hk3x.trans k14).of_none).andThen hKi (fun i hi e => by rcases e with e | e <;> constructor <;> omega)
              have hBrec : ¬ MineB g m1 m2 r d2 (wB.heap.size + 1) := (hIk.sea.bo.obj_off ((hKk.block _ (Array.getElem?_eq_some_iff.1 hr2').1 (fun e => e.2 rfl)).trans hr2') (fun _ _ _ e => by cases e) (fun _ _ e => by cases e)).1
              have hsk : wB.heap.size < Wk.heap.size := by have := hKi.size; omega
              clear hb14 hKi
              have hl12B : b12 < wB.heap.size := hI0.c12.lt
              have hl1 : (pre ++ [x]).length = pre.length + 1 := by simp
              have HL1 := Lib.hid hl1
              clear hl1
              have hwr1 : IntKind.i64.wrap ((pre.length : Int) + 1) = (pre.length : Int) + 1 := by rw [IntKind.wrap_i64]; omega
              rcases (by omega : (t = 0 ∧ pre.length < nM) ∨ (t = 0 ∧ ¬ pre.length < nM) ∨ t = 1) with ⟨ht0, hpm⟩ | ⟨ht0, hpm⟩ | ht0
              · have ck11 : Wk.cell? ⟨b11, 0, Option.none⟩ = some (.int .i64 0) := by rw [hIk.c11.cell 0 _ rfl, ht0]; rfl
                have HT := Lib.hid ht0
                clear ht0
                have ckW0 := hFk.fw.cell 0 _ rfl
                have ckW1 := hFk.fw.cell 1 _ rfl
                obtain ⟨s, hs⟩ : ∃ s, mts[pre.length]? = some s := ⟨_, List.getElem?_eq_getElem (by omega)⟩
                have hsw := hRM s (List.mem_of_getElem? hs)
                obtain ⟨bM, oM, eM, hsc⟩ := hM.grew hIk.sea.bo.keeps pre.length s hs
                rw [eM] at ckm
                clear eM
                gi_wp2
                refine start_round (ds := [14]) (S := (fun w' => Keeps None Wk w')) #[false, false, false, false, false, false, false, false, false, false, false, false, false, false, false, false, false] (by kernel_rfl) (by kernel_rfl) (fun ⟨_, _, h⟩ => h) rfl rfl ((Keeps.refl _ _).drew) (fun hS0 => ?_)
                refine take_ (i := 0) (N := some 90) (v := .int .i64 0) #[true, false, false, false, false, false, false, false, false, false, false, false, false, false, false, false, false] rfl rfl (by kernel_rfl) (fun _ _ _ h => h) (Or.inl ⟨wanted_none rfl, by intro w' hSw; have q := hSw.cell ck11 id; go_simp⟩) hS0 rfl ?_
                try simp only [Act.put, List.setIfInBounds_toArray, List.set_cons_zero, List.set_cons_succ]
                refine pure_ (i := 1) (N := some 91) (v := .bool true) #[true, true, false, false, false, false, false, false, false, false, false, false, false, false, false, false, false] rfl rfl (by kernel_rfl) (fun _ _ _ h => h) (Or.inl ⟨wanted_none rfl, fun w => by go_simp⟩) rfl ?_
                try simp only [Act.put, List.setIfInBounds_toArray, List.set_cons_zero, List.set_cons_succ]
                refine pure_ (i := 2) (N := some 92) (v := .bool true) #[true, true, true, false, false, false, false, false, false, false, false, false, false, false, false, false, false] rfl rfl (by kernel_rfl) (fun _ _ _ h => h) (Or.inl ⟨wanted_none rfl, fun w => by rfl⟩) rfl ?_
                try simp only [Act.put, List.setIfInBounds_toArray, List.set_cons_zero, List.set_cons_succ]
                refine take_ (i := 3) (N := some 93) (v := .int .i64 (pre.length : Int)) #[true, true, true, true, false, false, false, false, false, false, false, false, false, false, false, false, false] rfl rfl (by kernel_rfl) (fun _ _ _ h => h) (Or.inl ⟨by rfl, by intro w' hSw; have q := hSw.cell ck12 id; go_simp⟩) hS0 rfl ?_
                try simp only [Act.put, List.setIfInBounds_toArray, List.set_cons_zero, List.set_cons_succ]
                refine take_ (i := 4) (N := some 94) (v := .slice (some ⟨bM, oM, Option.none⟩) nM capM) #[true, true, true, true, true, false, false, false, false, false, false, false, false, false, false, false, false] rfl rfl (by kernel_rfl) (fun _ _ _ h => h) (Or.inl ⟨by rfl, by intro w' hSw; have q := hSw.cell ckm id; go_simp⟩) hS0 rfl ?_
                try simp only [Act.put, List.setIfInBounds_toArray, List.set_cons_zero, List.set_cons_succ]
                refine pure_ (i := 5) (N := some 95) (v := .int .i64 (nM : Int)) #[true, true, true, true, true, true, false, false, false, false, false, false, false, false, false, false, false] rfl rfl (by kernel_rfl) (fun _ _ _ h => h) (Or.inl ⟨by rfl, fun w => by go_simp⟩) rfl ?_
                try simp only [Act.put, List.setIfInBounds_toArray, List.set_cons_zero, List.set_cons_succ]
                refine pure_ (i := 6) (N := some 96) (v := .bool true) #[true, true, true, true, true, true, true, false, false, false, false, false, false, false, false, false, false] rfl rfl (by kernel_rfl) (fun _ _ _ h => h) (Or.inl ⟨by rfl, fun w => by go_simp⟩) rfl ?_
                try simp only [Act.put, List.setIfInBounds_toArray, List.set_cons_zero, List.set_cons_succ]
                refine pure_ (i := 7) (N := some 97) (v := .bool true) #[true, true, true, true, true, true, true, true, false, false, false, false, false, false, false, false, false] rfl rfl (by kernel_rfl) (fun _ _ _ h => h) (Or.inl ⟨wanted_none rfl, fun w => by go_simp⟩) rfl ?_
                try simp only [Act.put, List.setIfInBounds_toArray, List.set_cons_zero, List.set_cons_succ]
                refine pure_ (i := 8) (N := some 98) (v := .bool true) #[true, true, true, true, true, true, true, true, true, false, false, false, false, false, false, false, false] rfl rfl (by kernel_rfl) (fun _ _ _ h => h) (Or.inl ⟨wanted_none rfl, fun w => by rfl⟩) rfl ?_
                try simp only [Act.put, List.setIfInBounds_toArray, List.set_cons_zero, List.set_cons_succ]
                refine take_ (i := 9) (N := some 99) (v := wV g r) #[true, true, true, true, true, true, true, true, true, true, false, false, false, false, false, false, false] rfl rfl (by kernel_rfl) (fun _ _ _ h => h) (Or.inl ⟨by rfl, by intro w' hSw; have q0 := hSw.cell ckW0 id; have q1 := hSw.cell ckW1 id; simp only [wV]; go_simp⟩) hS0 rfl ?_
                try simp only [Act.put, List.setIfInBounds_toArray, List.set_cons_zero, List.set_cons_succ]
                refine take_ (i := 10) (N := some 100) (v := .slice (some ⟨bM, oM, Option.none⟩) nM capM) #[true, true, true, true, true, true, true, true, true, true, true, false, false, false, false, false, false] rfl rfl (by kernel_rfl) (fun _ _ _ h => h) (Or.inl ⟨by rfl, by intro w' hSw; have q := hSw.cell ckm id; go_simp⟩) hS0 rfl ?_
                try simp only [Act.put, List.setIfInBounds_toArray, List.set_cons_zero, List.set_cons_succ]
                refine take_ (i := 11) (N := some 101) (v := .int .i64 (pre.length : Int)) #[true, true, true, true, true, true, true, true, true, true, true, true, false, false, false, false, false] rfl rfl (by kernel_rfl) (fun _ _ _ h => h) (Or.inl ⟨by rfl, by intro w' hSw; have q := hSw.cell ck12 id; go_simp⟩) hS0 rfl ?_
                try simp only [Act.put, List.setIfInBounds_toArray, List.set_cons_zero, List.set_cons_succ]
                refine pure_ (i := 12) (N := some 102) (v := .pointer (some ⟨bM, oM + pre.length * 7, Option.none⟩)) #[true, true, true, true, true, true, true, true, true, true, true, true, true, false, false, false, false] rfl rfl (by kernel_rfl) (fun _ _ _ h => h) (Or.inl ⟨by rfl, fun w => by go_simp⟩) rfl ?_
                try simp only [Act.put, List.setIfInBounds_toArray, List.set_cons_zero, List.set_cons_succ]
                refine take_ (i := 13) (N := some 103) (v := s.val) #[true, true, true, true, true, true, true, true, true, true, true, true, true, true, false, false, false] rfl rfl (by kernel_rfl) (fun _ _ _ h => h) (Or.inl ⟨by rfl, by intro w' hSw; exact exec_load_stp (.tmp 102) rfl bM (oM + pre.length * 7) s rfl (fun i v hv => hSw.cell (hsc i v hv) id)⟩) hS0 rfl ?_
                try simp only [Act.put, List.setIfInBounds_toArray, List.set_cons_zero, List.set_cons_succ]
                refine last_ (i := 14) (oi := ({ dst := some 104, op := Op.call { callee := Callee.value (Operand.func 20), args := #[Operand.tmp 99, Operand.tmp 103], argTypes := #[50, 53] }, type := 4, pos := "outright.go:156", after := #[{ on := 9, ground := Ground.data }, { on := 13, ground := Ground.data }, { on := 8, ground := Ground.chain }, { on := 8, ground := Ground.guard }], guard := some (8, true) } : Oper)) (N := some 104) #[true, true, true, true, true, true, true, true, true, true, true, true, true, true, true, false, false] rfl rfl (by kernel_rfl) (by decide) ?_
                intro KK hKK
                refine goes_ Try.func20 (by kernel_rfl) rfl #[wV g r, s.val] (by rfl) rfl rfl (by simp [Act.eval]) ?_
                refine (bstep_any s Wk.drew (hIk.sea.bo.grew (Keeps.refl None Wk).drew) hsw (by omega)).mono ?_
                rintro e W4 ⟨rfl, d3, hB', hG'⟩
                refine ⟨_, rfl, hKK.out _ _ ?_⟩
                try simp only [Act.put, List.setIfInBounds_toArray, List.set_cons_zero, List.set_cons_succ]
                refine pure_ (i := 15) (N := some 105) (v := .bool false) #[true, true, true, true, true, true, true, true, true, true, true, true, true, true, true, true, false] rfl rfl (by kernel_rfl) (fun _ _ _ h => h) (Or.inl ⟨by rfl, fun w => by go_simp⟩) rfl ?_
                try simp only [Act.put, List.setIfInBounds_toArray, List.set_cons_zero, List.set_cons_succ]
                refine pure_ (i := 16) (N := some 106) (v := .bool false) #[true, true, true, true, true, true, true, true, true, true, true, true, true, true, true, true, true] rfl rfl (by kernel_rfl) (fun _ _ _ h => h) (Or.inl ⟨wanted_none rfl, fun w => by go_simp⟩) rfl ?_
                try simp only [Act.put, List.setIfInBounds_toArray, List.set_cons_zero, List.set_cons_succ]
                refine done_ (by kernel_rfl) ?_
                have hI4 : Iout w ws (42000 + 5880000 * t + 140 * (pre.length + 1)) g m1 m2 r d t b11 b12 Ds pre.length d3 W4 := ((hIk.grew (Keeps.refl None Wk).drew).goes hB' hG').mono (by omega)
                have hK4 : Keeps (fun b => b ≠ wB.heap.size ∧ b ≠ wB.heap.size + 1) w2 W4 := hKk.trans (((Keeps.refl None Wk).drew.of_none).andThen hG'.keeps (fun b hb e => ⟨fun q => hmB (q ▸ e), fun q => hBrec (q ▸ e)⟩))
                have hm3 : ¬ MineB g m1 m2 r d3 wB.heap.size := hG'.off hmB (by simpa using hsk)
                have c12a := hI4.c12.cell 0 _ rfl
                have f12a := hI4.c12.free 0
                obtain ⟨hI5, ks5⟩ := hI4.up h1211 hl12 hwws
                have e1 : ((pre.length + 1 : Nat) : Int) = (pre.length : Int) + 1 := by simp
                have c12b := hI5.c12.cell 0 _ rfl
                rw [e1] at hI5 ks5 c12b
                clear e1
                have c11b := hI5.c11.cell 0 _ rfl
                rw [HT.out] at c11b
                simp only [Int.natCast_zero, Int.natCast_one] at c11b
                have csb := (hI5.sea.four hFs).fs.cell 0 _ rfl
                have hK5 := hK4.andThen ks5 (fun i hi e => (by simp only [One] at e; constructor <;> omega : i ≠ wB.heap.size ∧ i ≠ wB.heap.size + 1))
                rcases (by omega : (pre.length : Int) + 1 = stop ∨ ¬ (pre.length : Int) + 1 = stop) with hsp | hsp
                · obtain ⟨t1, t2⟩ := test_eq hsp
                  clear hsp
                  gi_wp2
                  exact ⟨hK5, rfl, HT.out, d3, by rw [HL1.out]; exact hI5, by rw [HL1.out]; omega⟩
                · obtain ⟨t1, t2⟩ := test_ne hsp
                  clear hsp
                  gi_wp2
                  exact ⟨hK5, hSeq hI5.sea, d3, by rw [HL1.out]; exact hI5, hm3⟩
              · have ck11 : Wk.cell? ⟨b11, 0, Option.none⟩ = some (.int .i64 0) := by rw [hIk.c11.cell 0 _ rfl, ht0]; rfl
                have HT := Lib.hid ht0
                clear ht0
                gi_wp2
                refine region_round (C := fun w' => Keeps None Wk w') (by kernel_rfl) (by kernel_rfl) (by kernel_rfl) ((Keeps.refl None Wk).drew) ?_
                refine q_take (N := some 90) (.int .i64 0) (wanted_none rfl) rfl (by intro w' hSw; have q := hSw.cell ck11 id; go_simp) rfl ?_
                try simp only [Act.put, List.setIfInBounds_toArray, List.set_cons_zero, List.set_cons_succ]
                refine q_take (N := some 91) (.bool true) (wanted_none rfl) rfl (fun w' _ => by go_simp) rfl ?_
                try simp only [Act.put, List.setIfInBounds_toArray, List.set_cons_zero, List.set_cons_succ]
                refine q_take (N := some 92) (.bool true) (wanted_none rfl) rfl (fun w' _ => by rfl) rfl ?_
                try simp only [Act.put, List.setIfInBounds_toArray, List.set_cons_zero, List.set_cons_succ]
                refine q_take (N := some 93) (.int .i64 (pre.length : Int)) (by rfl) rfl (by intro w' hSw; have q := hSw.cell ck12 id; go_simp) rfl ?_
                try simp only [Act.put, List.setIfInBounds_toArray, List.set_cons_zero, List.set_cons_succ]
                refine q_take (N := some 94) (.slice M nM capM) (by rfl) rfl (by intro w' hSw; have q := hSw.cell ckm id; go_simp) rfl ?_
                try simp only [Act.put, List.setIfInBounds_toArray, List.set_cons_zero, List.set_cons_succ]
                refine q_take (N := some 95) (.int .i64 (nM : Int)) (by rfl) rfl (fun w' _ => by go_simp) rfl ?_
                try simp only [Act.put, List.setIfInBounds_toArray, List.set_cons_zero, List.set_cons_succ]
                refine q_take (N := some 96) (.bool false) (by rfl) rfl (fun w' _ => by go_simp) rfl ?_
                try simp only [Act.put, List.setIfInBounds_toArray, List.set_cons_zero, List.set_cons_succ]
                refine q_take (N := some 97) (.bool false) (wanted_none rfl) rfl (fun w' _ => by go_simp) rfl ?_
                try simp only [Act.put, List.setIfInBounds_toArray, List.set_cons_zero, List.set_cons_succ]
                refine q_take (N := some 98) (.bool false) (wanted_none rfl) rfl (fun w' _ => by rfl) rfl ?_
                try simp only [Act.put, List.setIfInBounds_toArray, List.set_cons_zero, List.set_cons_succ]
                refine q_off (N := some 99) (by rfl) rfl rfl ?_
                try simp only [Act.put, List.setIfInBounds_toArray, List.set_cons_zero, List.set_cons_succ]
                refine q_off (N := some 100) (by rfl) rfl rfl ?_
                try simp only [Act.put, List.setIfInBounds_toArray, List.set_cons_zero, List.set_cons_succ]
                refine q_off (N := some 101) (by rfl) rfl rfl ?_
                try simp only [Act.put, List.setIfInBounds_toArray, List.set_cons_zero, List.set_cons_succ]
                refine q_off (N := some 102) (by rfl) rfl rfl ?_
                try simp only [Act.put, List.setIfInBounds_toArray, List.set_cons_zero, List.set_cons_succ]
                refine q_off (N := some 103) (by rfl) rfl rfl ?_
                try simp only [Act.put, List.setIfInBounds_toArray, List.set_cons_zero, List.set_cons_succ]
                refine q_off (N := some 104) (by rfl) rfl rfl ?_
                try simp only [Act.put, List.setIfInBounds_toArray, List.set_cons_zero, List.set_cons_succ]
                refine q_off (N := some 105) (by rfl) rfl rfl ?_
                try simp only [Act.put, List.setIfInBounds_toArray, List.set_cons_zero, List.set_cons_succ]
                refine q_take (N := some 106) (.bool false) (wanted_none rfl) rfl (fun w' _ => by go_simp) rfl ?_
                try simp only [Act.put, List.setIfInBounds_toArray, List.set_cons_zero, List.set_cons_succ]
                refine wpQuietIn_nil ?_
                intro W4 hk4
                have hI4 : Iout w ws (42000 + 5880000 * t + 140 * (pre.length + 1)) g m1 m2 r d t b11 b12 Ds pre.length d2 W4 := (hIk.grew hk4).mono (by omega)
                have hK4 : Keeps (fun b => b ≠ wB.heap.size ∧ b ≠ wB.heap.size + 1) w2 W4 := hKk.trans hk4.of_none
                have hm3 := hmB
                have c12a := hI4.c12.cell 0 _ rfl
                have f12a := hI4.c12.free 0
                obtain ⟨hI5, ks5⟩ := hI4.up h1211 hl12 hwws
                have e1 : ((pre.length + 1 : Nat) : Int) = (pre.length : Int) + 1 := by simp
                have c12b := hI5.c12.cell 0 _ rfl
                rw [e1] at hI5 ks5 c12b
                clear e1
                have c11b := hI5.c11.cell 0 _ rfl
                rw [HT.out] at c11b
                simp only [Int.natCast_zero, Int.natCast_one] at c11b
                have csb := (hI5.sea.four hFs).fs.cell 0 _ rfl
                have hK5 := hK4.andThen ks5 (fun i hi e => (by simp only [One] at e; constructor <;> omega : i ≠ wB.heap.size ∧ i ≠ wB.heap.size + 1))
                rcases (by omega : (pre.length : Int) + 1 = stop ∨ ¬ (pre.length : Int) + 1 = stop) with hsp | hsp
                · obtain ⟨t1, t2⟩ := test_eq hsp
                  clear hsp
                  gi_wp2
                  exact ⟨hK5, rfl, HT.out, d2, by rw [HL1.out]; exact hI5, by rw [HL1.out]; omega⟩
                · obtain ⟨t1, t2⟩ := test_ne hsp
                  clear hsp
                  gi_wp2
                  exact ⟨hK5, hSeq hI5.sea, d2, by rw [HL1.out]; exact hI5, hm3⟩
              · have ck11 : Wk.cell? ⟨b11, 0, Option.none⟩ = some (.int .i64 1) := by rw [hIk.c11.cell 0 _ rfl, ht0]; rfl
                have HT := Lib.hid ht0
                clear ht0
                gi_wp2
                refine region_round (C := fun w' => Keeps None Wk w') (by kernel_rfl) (by kernel_rfl) (by kernel_rfl) ((Keeps.refl None Wk).drew) ?_
                refine q_take (N := some 90) (.int .i64 1) (wanted_none rfl) rfl (by intro w' hSw; have q := hSw.cell ck11 id; go_simp) rfl ?_
                try simp only [Act.put, List.setIfInBounds_toArray, List.set_cons_zero, List.set_cons_succ]
                refine q_take (N := some 91) (.bool false) (wanted_none rfl) rfl (fun w' _ => by go_simp) rfl ?_
                try simp only [Act.put, List.setIfInBounds_toArray, List.set_cons_zero, List.set_cons_succ]
                refine q_take (N := some 92) (.bool false) (wanted_none rfl) rfl (fun w' _ => by rfl) rfl ?_
                try simp only [Act.put, List.setIfInBounds_toArray, List.set_cons_zero, List.set_cons_succ]
                refine q_off (N := some 93) (by rfl) rfl rfl ?_
                try simp only [Act.put, List.setIfInBounds_toArray, List.set_cons_zero, List.set_cons_succ]
                refine q_off (N := some 94) (by rfl) rfl rfl ?_
                try simp only [Act.put, List.setIfInBounds_toArray, List.set_cons_zero, List.set_cons_succ]
                refine q_off (N := some 95) (by rfl) rfl rfl ?_
                try simp only [Act.put, List.setIfInBounds_toArray, List.set_cons_zero, List.set_cons_succ]
                refine q_off (N := some 96) (by rfl) rfl rfl ?_
                try simp only [Act.put, List.setIfInBounds_toArray, List.set_cons_zero, List.set_cons_succ]
                refine q_take (N := some 97) (.bool false) (wanted_none rfl) rfl (fun w' _ => by go_simp) rfl ?_
                try simp only [Act.put, List.setIfInBounds_toArray, List.set_cons_zero, List.set_cons_succ]
                refine q_take (N := some 98) (.bool false) (wanted_none rfl) rfl (fun w' _ => by rfl) rfl ?_
                try simp only [Act.put, List.setIfInBounds_toArray, List.set_cons_zero, List.set_cons_succ]
                refine q_off (N := some 99) (by rfl) rfl rfl ?_
                try simp only [Act.put, List.setIfInBounds_toArray, List.set_cons_zero, List.set_cons_succ]
                refine q_off (N := some 100) (by rfl) rfl rfl ?_
                try simp only [Act.put, List.setIfInBounds_toArray, List.set_cons_zero, List.set_cons_succ]
                refine q_off (N := some 101) (by rfl) rfl rfl ?_
                try simp only [Act.put, List.setIfInBounds_toArray, List.set_cons_zero, List.set_cons_succ]
                refine q_off (N := some 102) (by rfl) rfl rfl ?_
                try simp only [Act.put, List.setIfInBounds_toArray, List.set_cons_zero, List.set_cons_succ]
                refine q_off (N := some 103) (by rfl) rfl rfl ?_
                try simp only [Act.put, List.setIfInBounds_toArray, List.set_cons_zero, List.set_cons_succ]
                refine q_off (N := some 104) (by rfl) rfl rfl ?_
                try simp only [Act.put, List.setIfInBounds_toArray, List.set_cons_zero, List.set_cons_succ]
                refine q_off (N := some 105) (by rfl) rfl rfl ?_
                try simp only [Act.put, List.setIfInBounds_toArray, List.set_cons_zero, List.set_cons_succ]
                refine q_take (N := some 106) (.bool false) (wanted_none rfl) rfl (fun w' _ => by go_simp) rfl ?_
                try simp only [Act.put, List.setIfInBounds_toArray, List.set_cons_zero, List.set_cons_succ]
                refine wpQuietIn_nil ?_
                intro W4 hk4
                have hI4 : Iout w ws (42000 + 5880000 * t + 140 * (pre.length + 1)) g m1 m2 r d t b11 b12 Ds pre.length d2 W4 := (hIk.grew hk4).mono (by omega)
                have hK4 : Keeps (fun b => b ≠ wB.heap.size ∧ b ≠ wB.heap.size + 1) w2 W4 := hKk.trans hk4.of_none
                have hm3 := hmB
                have c12a := hI4.c12.cell 0 _ rfl
                have f12a := hI4.c12.free 0
                obtain ⟨hI5, ks5⟩ := hI4.up h1211 hl12 hwws
                have e1 : ((pre.length + 1 : Nat) : Int) = (pre.length : Int) + 1 := by simp
                have c12b := hI5.c12.cell 0 _ rfl
                rw [e1] at hI5 ks5 c12b
                clear e1
                have c11b := hI5.c11.cell 0 _ rfl
                rw [HT.out] at c11b
                simp only [Int.natCast_zero, Int.natCast_one] at c11b
                have csb := (hI5.sea.four hFs).fs.cell 0 _ rfl
                have hK5 := hK4.andThen ks5 (fun i hi e => (by simp only [One] at e; constructor <;> omega : i ≠ wB.heap.size ∧ i ≠ wB.heap.size + 1))
                gi_wp2
                exact ⟨hK5, hSeq hI5.sea, d2, by rw [HL1.out]; exact hI5, hm3⟩
            · rintro c pre2 Wk hSp ⟨rfl, hKi⟩
              have hb14 := True.intro
              clear hSp
              have hIk := hII.beside h14 hKi h1411 h1412 hws3x hwws
              have hFk := hIk.sea.four hFs
              have ck12 := hIk.c12.cell 0 _ rfl
              have ckm := hFk.fm.cell 0 _ rfl
              have hKk : Keeps (fun b => b ≠ wB.heap.size ∧ b ≠ wB.heap.size + 1) w2 Wk := ((hk3x.trans k14).of_none).andThen hKi (fun i hi e => by rcases e with e | e <;> constructor <;> omega)
              have hBrec : ¬ MineB g m1 m2 r d2 (wB.heap.size + 1) := (hIk.sea.bo.obj_off ((hKk.block _ (Array.getElem?_eq_some_iff.1 hr2').1 (fun e => e.2 rfl)).trans hr2') (fun _ _ _ e => by cases e) (fun _ _ e => by cases e)).1
              have hsk : wB.heap.size < Wk.heap.size := by have := hKi.size; omega
              clear hb14 hKi
              have hl12B : b12 < wB.heap.size := hI0.c12.lt
              have hl1 : (pre ++ [x]).length = pre.length + 1 := by simp
              have HL1 := Lib.hid hl1
              clear hl1
              have hwr1 : IntKind.i64.wrap ((pre.length : Int) + 1) = (pre.length : Int) + 1 := by rw [IntKind.wrap_i64]; omega
              rcases (by omega : (t = 0 ∧ pre.length < nM) ∨ (t = 0 ∧ ¬ pre.length < nM) ∨ t = 1) with ⟨ht0, hpm⟩ | ⟨ht0, hpm⟩ | ht0
              · have ck11 : Wk.cell? ⟨b11, 0, Option.none⟩ = some (.int .i64 0) := by rw [hIk.c11.cell 0 _ rfl, ht0]; rfl
                have HT := Lib.hid ht0
                clear ht0
                have ckW0 := hFk.fw.cell 0 _ rfl
                have ckW1 := hFk.fw.cell 1 _ rfl
                obtain ⟨s, hs⟩ : ∃ s, mts[pre.length]? = some s := ⟨_, List.getElem?_eq_getElem (by omega)⟩
                have hsw := hRM s (List.mem_of_getElem? hs)
                obtain ⟨bM, oM, eM, hsc⟩ := hM.grew hIk.sea.bo.keeps pre.length s hs
                rw [eM] at ckm
                clear eM
                gi_wp2
                refine start_round (ds := [14]) (S := (fun w' => Keeps None Wk w')) #[false, false, false, false, false, false, false, false, false, false, false, false, false, false, false, false, false] (by kernel_rfl) (by kernel_rfl) (fun ⟨_, _, h⟩ => h) rfl rfl ((Keeps.refl _ _).drew) (fun hS0 => ?_)
                refine take_ (i := 0) (N := some 90) (v := .int .i64 0) #[true, false, false, false, false, false, false, false, false, false, false, false, false, false, false, false, false] rfl rfl (by kernel_rfl) (fun _ _ _ h => h) (Or.inl ⟨wanted_none rfl, by intro w' hSw; have q := hSw.cell ck11 id; go_simp⟩) hS0 rfl ?_
                try simp only [Act.put, List.setIfInBounds_toArray, List.set_cons_zero, List.set_cons_succ]
                refine pure_ (i := 1) (N := some 91) (v := .bool true) #[true, true, false, false, false, false, false, false, false, false, false, false, false, false, false, false, false] rfl rfl (by kernel_rfl) (fun _ _ _ h => h) (Or.inl ⟨wanted_none rfl, fun w => by go_simp⟩) rfl ?_
                try simp only [Act.put, List.setIfInBounds_toArray, List.set_cons_zero, List.set_cons_succ]
                refine pure_ (i := 2) (N := some 92) (v := .bool true) #[true, true, true, false, false, false, false, false, false, false, false, false, false, false, false, false, false] rfl rfl (by kernel_rfl) (fun _ _ _ h => h) (Or.inl ⟨wanted_none rfl, fun w => by rfl⟩) rfl ?_
                try simp only [Act.put, List.setIfInBounds_toArray, List.set_cons_zero, List.set_cons_succ]
                refine take_ (i := 3) (N := some 93) (v := .int .i64 (pre.length : Int)) #[true, true, true, true, false, false, false, false, false, false, false, false, false, false, false, false, false] rfl rfl (by kernel_rfl) (fun _ _ _ h => h) (Or.inl ⟨by rfl, by intro w' hSw; have q := hSw.cell ck12 id; go_simp⟩) hS0 rfl ?_
                try simp only [Act.put, List.setIfInBounds_toArray, List.set_cons_zero, List.set_cons_succ]
                refine take_ (i := 4) (N := some 94) (v := .slice (some ⟨bM, oM, Option.none⟩) nM capM) #[true, true, true, true, true, false, false, false, false, false, false, false, false, false, false, false, false] rfl rfl (by kernel_rfl) (fun _ _ _ h => h) (Or.inl ⟨by rfl, by intro w' hSw; have q := hSw.cell ckm id; go_simp⟩) hS0 rfl ?_
                try simp only [Act.put, List.setIfInBounds_toArray, List.set_cons_zero, List.set_cons_succ]
                refine pure_ (i := 5) (N := some 95) (v := .int .i64 (nM : Int)) #[true, true, true, true, true, true, false, false, false, false, false, false, false, false, false, false, false] rfl rfl (by kernel_rfl) (fun _ _ _ h => h) (Or.inl ⟨by rfl, fun w => by go_simp⟩) rfl ?_
                try simp only [Act.put, List.setIfInBounds_toArray, List.set_cons_zero, List.set_cons_succ]
                refine pure_ (i := 6) (N := some 96) (v := .bool true) #[true, true, true, true, true, true, true, false, false, false, false, false, false, false, false, false, false] rfl rfl (by kernel_rfl) (fun _ _ _ h => h) (Or.inl ⟨by rfl, fun w => by go_simp⟩) rfl ?_
                try simp only [Act.put, List.setIfInBounds_toArray, List.set_cons_zero, List.set_cons_succ]
                refine pure_ (i := 7) (N := some 97) (v := .bool true) #[true, true, true, true, true, true, true, true, false, false, false, false, false, false, false, false, false] rfl rfl (by kernel_rfl) (fun _ _ _ h => h) (Or.inl ⟨wanted_none rfl, fun w => by go_simp⟩) rfl ?_
                try simp only [Act.put, List.setIfInBounds_toArray, List.set_cons_zero, List.set_cons_succ]
                refine pure_ (i := 8) (N := some 98) (v := .bool true) #[true, true, true, true, true, true, true, true, true, false, false, false, false, false, false, false, false] rfl rfl (by kernel_rfl) (fun _ _ _ h => h) (Or.inl ⟨wanted_none rfl, fun w => by rfl⟩) rfl ?_
                try simp only [Act.put, List.setIfInBounds_toArray, List.set_cons_zero, List.set_cons_succ]
                refine take_ (i := 9) (N := some 99) (v := wV g r) #[true, true, true, true, true, true, true, true, true, true, false, false, false, false, false, false, false] rfl rfl (by kernel_rfl) (fun _ _ _ h => h) (Or.inl ⟨by rfl, by intro w' hSw; have q0 := hSw.cell ckW0 id; have q1 := hSw.cell ckW1 id; simp only [wV]; go_simp⟩) hS0 rfl ?_
                try simp only [Act.put, List.setIfInBounds_toArray, List.set_cons_zero, List.set_cons_succ]
                refine take_ (i := 10) (N := some 100) (v := .slice (some ⟨bM, oM, Option.none⟩) nM capM) #[true, true, true, true, true, true, true, true, true, true, true, false, false, false, false, false, false] rfl rfl (by kernel_rfl) (fun _ _ _ h => h) (Or.inl ⟨by rfl, by intro w' hSw; have q := hSw.cell ckm id; go_simp⟩) hS0 rfl ?_
                try simp only [Act.put, List.setIfInBounds_toArray, List.set_cons_zero, List.set_cons_succ]
                refine take_ (i := 11) (N := some 101) (v := .int .i64 (pre.length : Int)) #[true, true, true, true, true, true, true, true, true, true, true, true, false, false, false, false, false] rfl rfl (by kernel_rfl) (fun _ _ _ h => h) (Or.inl ⟨by rfl, by intro w' hSw; have q := hSw.cell ck12 id; go_simp⟩) hS0 rfl ?_
                try simp only [Act.put, List.setIfInBounds_toArray, List.set_cons_zero, List.set_cons_succ]
                refine pure_ (i := 12) (N := some 102) (v := .pointer (some ⟨bM, oM + pre.length * 7, Option.none⟩)) #[true, true, true, true, true, true, true, true, true, true, true, true, true, false, false, false, false] rfl rfl (by kernel_rfl) (fun _ _ _ h => h) (Or.inl ⟨by rfl, fun w => by go_simp⟩) rfl ?_
                try simp only [Act.put, List.setIfInBounds_toArray, List.set_cons_zero, List.set_cons_succ]
                refine take_ (i := 13) (N := some 103) (v := s.val) #[true, true, true, true, true, true, true, true, true, true, true, true, true, true, false, false, false] rfl rfl (by kernel_rfl) (fun _ _ _ h => h) (Or.inl ⟨by rfl, by intro w' hSw; exact exec_load_stp (.tmp 102) rfl bM (oM + pre.length * 7) s rfl (fun i v hv => hSw.cell (hsc i v hv) id)⟩) hS0 rfl ?_
                try simp only [Act.put, List.setIfInBounds_toArray, List.set_cons_zero, List.set_cons_succ]
                refine last_ (i := 14) (oi := ({ dst := some 104, op := Op.call { callee := Callee.value (Operand.func 20), args := #[Operand.tmp 99, Operand.tmp 103], argTypes := #[50, 53] }, type := 4, pos := "outright.go:156", after := #[{ on := 9, ground := Ground.data }, { on := 13, ground := Ground.data }, { on := 8, ground := Ground.chain }, { on := 8, ground := Ground.guard }], guard := some (8, true) } : Oper)) (N := some 104) #[true, true, true, true, true, true, true, true, true, true, true, true, true, true, true, false, false] rfl rfl (by kernel_rfl) (by decide) ?_
                intro KK hKK
                refine goes_ Try.func20 (by kernel_rfl) rfl #[wV g r, s.val] (by rfl) rfl rfl (by simp [Act.eval]) ?_
                refine (bstep_any s Wk.drew (hIk.sea.bo.grew (Keeps.refl None Wk).drew) hsw (by omega)).mono ?_
                rintro e W4 ⟨rfl, d3, hB', hG'⟩
                refine ⟨_, rfl, hKK.out _ _ ?_⟩
                try simp only [Act.put, List.setIfInBounds_toArray, List.set_cons_zero, List.set_cons_succ]
                refine pure_ (i := 15) (N := some 105) (v := .bool false) #[true, true, true, true, true, true, true, true, true, true, true, true, true, true, true, true, false] rfl rfl (by kernel_rfl) (fun _ _ _ h => h) (Or.inl ⟨by rfl, fun w => by go_simp⟩) rfl ?_
                try simp only [Act.put, List.setIfInBounds_toArray, List.set_cons_zero, List.set_cons_succ]
                refine pure_ (i := 16) (N := some 106) (v := .bool false) #[true, true, true, true, true, true, true, true, true, true, true, true, true, true, true, true, true] rfl rfl (by kernel_rfl) (fun _ _ _ h => h) (Or.inl ⟨wanted_none rfl, fun w => by go_simp⟩) rfl ?_
                try simp only [Act.put, List.setIfInBounds_toArray, List.set_cons_zero, List.set_cons_succ]
                refine done_ (by kernel_rfl) ?_
                have hI4 : Iout w ws (42000 + 5880000 * t + 140 * (pre.length + 1)) g m1 m2 r d t b11 b12 Ds pre.length d3 W4 := ((hIk.grew (Keeps.refl None Wk).drew).goes hB' hG').mono (by omega)
                have hK4 : Keeps (fun b => b ≠ wB.heap.size ∧ b ≠ wB.heap.size + 1) w2 W4 := hKk.trans (((Keeps.refl None Wk).drew.of_none).andThen hG'.keeps (fun b hb e => ⟨fun q => hmB (q ▸ e), fun q => hBrec (q ▸ e)⟩))
                have hm3 : ¬ MineB g m1 m2 r d3 wB.heap.size := hG'.off hmB (by simpa using hsk)
                have c12a := hI4.c12.cell 0 _ rfl
                have f12a := hI4.c12.free 0
                obtain ⟨hI5, ks5⟩ := hI4.up h1211 hl12 hwws
                have e1 : ((pre.length + 1 : Nat) : Int) = (pre.length : Int) + 1 := by simp
                have c12b := hI5.c12.cell 0 _ rfl
                rw [e1] at hI5 ks5 c12b
                clear e1
                have c11b := hI5.c11.cell 0 _ rfl
                rw [HT.out] at c11b
                simp only [Int.natCast_zero, Int.natCast_one] at c11b
                have csb := (hI5.sea.four hFs).fs.cell 0 _ rfl
                have hK5 := hK4.andThen ks5 (fun i hi e => (by simp only [One] at e; constructor <;> omega : i ≠ wB.heap.size ∧ i ≠ wB.heap.size + 1))
                rcases (by omega : (pre.length : Int) + 1 = stop ∨ ¬ (pre.length : Int) + 1 = stop) with hsp | hsp
                · obtain ⟨t1, t2⟩ := test_eq hsp
                  clear hsp
                  gi_wp2
                  exact ⟨hK5, rfl, HT.out, d3, by rw [HL1.out]; exact hI5, by rw [HL1.out]; omega⟩
                · obtain ⟨t1, t2⟩ := test_ne hsp
                  clear hsp
                  gi_wp2
                  exact ⟨hK5, hSeq hI5.sea, d3, by rw [HL1.out]; exact hI5, hm3⟩
              · have ck11 : Wk.cell? ⟨b11, 0, Option.none⟩ = some (.int .i64 0) := by rw [hIk.c11.cell 0 _ rfl, ht0]; rfl
                have HT := Lib.hid ht0
                clear ht0
                gi_wp2
                refine region_round (C := fun w' => Keeps None Wk w') (by kernel_rfl) (by kernel_rfl) (by kernel_rfl) ((Keeps.refl None Wk).drew) ?_
                refine q_take (N := some 90) (.int .i64 0) (wanted_none rfl) rfl (by intro w' hSw; have q := hSw.cell ck11 id; go_simp) rfl ?_
                try simp only [Act.put, List.setIfInBounds_toArray, List.set_cons_zero, List.set_cons_succ]
                refine q_take (N := some 91) (.bool true) (wanted_none rfl) rfl (fun w' _ => by go_simp) rfl ?_
                try simp only [Act.put, List.setIfInBounds_toArray, List.set_cons_zero, List.set_cons_succ]
                refine q_take (N := some 92) (.bool true) (wanted_none rfl) rfl (fun w' _ => by rfl) rfl ?_
                try simp only [Act.put, List.setIfInBounds_toArray, List.set_cons_zero, List.set_cons_succ]
                refine q_take (N := some 93) (.int .i64 (pre.length : Int)) (by rfl) rfl (by intro w' hSw; have q := hSw.cell ck12 id; go_simp) rfl ?_
                try simp only [Act.put, List.setIfInBounds_toArray, List.set_cons_zero, List.set_cons_succ]
                refine q_take (N := some 94) (.slice M nM capM) (by rfl) rfl (by intro w' hSw; have q := hSw.cell ckm id; go_simp) rfl ?_
                try simp only [Act.put, List.setIfInBounds_toArray, List.set_cons_zero, List.set_cons_succ]
                refine q_take (N := some 95) (.int .i64 (nM : Int)) (by rfl) rfl (fun w' _ => by go_simp) rfl ?_
                try simp only [Act.put, List.setIfInBounds_toArray, List.set_cons_zero, List.set_cons_succ]
                refine q_take (N := some 96) (.bool false) (by rfl) rfl (fun w' _ => by go_simp) rfl ?_
                try simp only [Act.put, List.setIfInBounds_toArray, List.set_cons_zero, List.set_cons_succ]
                refine q_take (N := some 97) (.bool false) (wanted_none rfl) rfl (fun w' _ => by go_simp) rfl ?_
                try simp only [Act.put, List.setIfInBounds_toArray, List.set_cons_zero, List.set_cons_succ]
                refine q_take (N := some 98) (.bool false) (wanted_none rfl) rfl (fun w' _ => by rfl) rfl ?_
                try simp only [Act.put, List.setIfInBounds_toArray, List.set_cons_zero, List.set_cons_succ]
                refine q_off (N := some 99) (by rfl) rfl rfl ?_
                try simp only [Act.put, List.setIfInBounds_toArray, List.set_cons_zero, List.set_cons_succ]
                refine q_off (N := some 100) (by rfl) rfl rfl ?_
                try simp only [Act.put, List.setIfInBounds_toArray, List.set_cons_zero, List.set_cons_succ]
                refine q_off (N := some 101) (by rfl) rfl rfl ?_
                try simp only [Act.put, List.setIfInBounds_toArray, List.set_cons_zero, List.set_cons_succ]
                refine q_off (N := some 102) (by rfl) rfl rfl ?_
                try simp only [Act.put, List.setIfInBounds_toArray, List.set_cons_zero, List.set_cons_succ]
                refine q_off (N := some 103) (by rfl) rfl rfl ?_
                try simp only [Act.put, List.setIfInBounds_toArray, List.set_cons_zero, List.set_cons_succ]
                refine q_off (N := some 104) (by rfl) rfl rfl ?_
                try simp only [Act.put, List.setIfInBounds_toArray, List.set_cons_zero, List.set_cons_succ]
                refine q_off (N := some 105) (by rfl) rfl rfl ?_
                try simp only [Act.put, List.setIfInBounds_toArray, List.set_cons_zero, List.set_cons_succ]
                refine q_take (N := some 106) (.bool false) (wanted_none rfl) rfl (fun w' _ => by go_simp) rfl ?_
                try simp only [Act.put, List.setIfInBounds_toArray, List.set_cons_zero, List.set_cons_succ]
                refine wpQuietIn_nil ?_
                intro W4 hk4
                have hI4 : Iout w ws (42000 + 5880000 * t + 140 * (pre.length + 1)) g m1 m2 r d t b11 b12 Ds pre.length d2 W4 := (hIk.grew hk4).mono (by omega)
                have hK4 : Keeps (fun b => b ≠ wB.heap.size ∧ b ≠ wB.heap.size + 1) w2 W4 := hKk.trans hk4.of_none
                have hm3 := hmB
                have c12a := hI4.c12.cell 0 _ rfl
                have f12a := hI4.c12.free 0
                obtain ⟨hI5, ks5⟩ := hI4.up h1211 hl12 hwws
                have e1 : ((pre.length + 1 : Nat) : Int) = (pre.length : Int) + 1 := by simp
                have c12b := hI5.c12.cell 0 _ rfl
                rw [e1] at hI5 ks5 c12b
                clear e1
                have c11b := hI5.c11.cell 0 _ rfl
                rw [HT.out] at c11b
                simp only [Int.natCast_zero, Int.natCast_one] at c11b
                have csb := (hI5.sea.four hFs).fs.cell 0 _ rfl
                have hK5 := hK4.andThen ks5 (fun i hi e => (by simp only [One] at e; constructor <;> omega : i ≠ wB.heap.size ∧ i ≠ wB.heap.size + 1))
                rcases (by omega : (pre.length : Int) + 1 = stop ∨ ¬ (pre.length : Int) + 1 = stop) with hsp | hsp
                · obtain ⟨t1, t2⟩ := test_eq hsp
                  clear hsp
                  gi_wp2
                  exact ⟨hK5, rfl, HT.out, d2, by rw [HL1.out]; exact hI5, by rw [HL1.out]; omega⟩
                · obtain ⟨t1, t2⟩ := test_ne hsp
                  clear hsp
                  gi_wp2
                  exact ⟨hK5, hSeq hI5.sea, d2, by rw [HL1.out]; exact hI5, hm3⟩
              · have ck11 : Wk.cell? ⟨b11, 0, Option.none⟩ = some (.int .i64 1) := by rw [hIk.c11.cell 0 _ rfl, ht0]; rfl
                have HT := Lib.hid ht0
                clear ht0
                gi_wp2
                refine region_round (C := fun w' => Keeps None Wk w') (by kernel_rfl) (by kernel_rfl) (by kernel_rfl) ((Keeps.refl None Wk).drew) ?_
                refine q_take (N := some 90) (.int .i64 1) (wanted_none rfl) rfl (by intro w' hSw; have q := hSw.cell ck11 id; go_simp) rfl ?_
                try simp only [Act.put, List.setIfInBounds_toArray, List.set_cons_zero, List.set_cons_succ]
                refine q_take (N := some 91) (.bool false) (wanted_none rfl) rfl (fun w' _ => by go_simp) rfl ?_
                try simp only [Act.put, List.setIfInBounds_toArray, List.set_cons_zero, List.set_cons_succ]
                refine q_take (N := some 92) (.bool false) (wanted_none rfl) rfl (fun w' _ => by rfl) rfl ?_
                try simp only [Act.put, List.setIfInBounds_toArray, List.set_cons_zero, List.set_cons_succ]
                refine q_off (N := some 93) (by rfl) rfl rfl ?_
                try simp only [Act.put, List.setIfInBounds_toArray, List.set_cons_zero, List.set_cons_succ]
                refine q_off (N := some 94) (by rfl) rfl rfl ?_
                try simp only [Act.put, List.setIfInBounds_toArray, List.set_cons_zero, List.set_cons_succ]
                refine q_off (N := some 95) (by rfl) rfl rfl ?_
                try simp only [Act.put, List.setIfInBounds_toArray, List.set_cons_zero, List.set_cons_succ]
                refine q_off (N := some 96) (by rfl) rfl rfl ?_
                try simp only [Act.put, List.setIfInBounds_toArray, List.set_cons_zero, List.set_cons_succ]
                refine q_take (N := some 97) (.bool false) (wanted_none rfl) rfl (fun w' _ => by go_simp) rfl ?_
                try simp only [Act.put, List.setIfInBounds_toArray, List.set_cons_zero, List.set_cons_succ]
                refine q_take (N := some 98) (.bool false) (wanted_none rfl) rfl (fun w' _ => by rfl) rfl ?_
                try simp only [Act.put, List.setIfInBounds_toArray, List.set_cons_zero, List.set_cons_succ]
                refine q_off (N := some 99) (by rfl) rfl rfl ?_
                try simp only [Act.put, List.setIfInBounds_toArray, List.set_cons_zero, List.set_cons_succ]
                refine q_off (N := some 100) (by rfl) rfl rfl ?_
                try simp only [Act.put, List.setIfInBounds_toArray, List.set_cons_zero, List.set_cons_succ]
                refine q_off (N := some 101) (by rfl) rfl rfl ?_
                try simp only [Act.put, List.setIfInBounds_toArray, List.set_cons_zero, List.set_cons_succ]
                refine q_off (N := some 102) (by rfl) rfl rfl ?_
                try simp only [Act.put, List.setIfInBounds_toArray, List.set_cons_zero, List.set_cons_succ]
                refine q_off (N := some 103) (by rfl) rfl rfl ?_
                try simp only [Act.put, List.setIfInBounds_toArray, List.set_cons_zero, List.set_cons_succ]
                refine q_off (N := some 104) (by rfl) rfl rfl ?_
                try simp only [Act.put, List.setIfInBounds_toArray, List.set_cons_zero, List.set_cons_succ]
                refine q_off (N := some 105) (by rfl) rfl rfl ?_
                try simp only [Act.put, List.setIfInBounds_toArray, List.set_cons_zero, List.set_cons_succ]
                refine q_take (N := some 106) (.bool false) (wanted_none rfl) rfl (fun w' _ => by go_simp) rfl ?_
                try simp only [Act.put, List.setIfInBounds_toArray, List.set_cons_zero, List.set_cons_succ]
                refine wpQuietIn_nil ?_
                intro W4 hk4
                have hI4 : Iout w ws (42000 + 5880000 * t + 140 * (pre.length + 1)) g m1 m2 r d t b11 b12 Ds pre.length d2 W4 := (hIk.grew hk4).mono (by omega)
                have hK4 : Keeps (fun b => b ≠ wB.heap.size ∧ b ≠ wB.heap.size + 1) w2 W4 := hKk.trans hk4.of_none
                have hm3 := hmB
                have c12a := hI4.c12.cell 0 _ rfl
                have f12a := hI4.c12.free 0
                obtain ⟨hI5, ks5⟩ := hI4.up h1211 hl12 hwws
                have e1 : ((pre.length + 1 : Nat) : Int) = (pre.length : Int) + 1 := by simp
                have c12b := hI5.c12.cell 0 _ rfl
                rw [e1] at hI5 ks5 c12b
                clear e1
                have c11b := hI5.c11.cell 0 _ rfl
                rw [HT.out] at c11b
                simp only [Int.natCast_zero, Int.natCast_one] at c11b
                have csb := (hI5.sea.four hFs).fs.cell 0 _ rfl
                have hK5 := hK4.andThen ks5 (fun i hi e => (by simp only [One] at e; constructor <;> omega : i ≠ wB.heap.size ∧ i ≠ wB.heap.size + 1))
                gi_wp2
                exact ⟨hK5, hSeq hI5.sea, d2, by rw [HL1.out]; exact hI5, hm3⟩
          · rintro xs W hSf ⟨d2, hI, hm⟩ hD
            have hxl : xs.length = d.LR.length := by have h1 := congrArg List.length hSf; have h2 := hBs.lens; simp at h1; omega
            have hsW := hI.sea.keeps.size
            have hwsBW : wB.heap.size < W.heap.size := (Array.getElem?_eq_some_iff.1 hD).1
            have c12e := hI.c12.cell 0 _ rfl
            have cwe := (hbws.keeps hI.sea.keeps (hI.sea.low hbws.lt hoff3)).cell 0 _ rfl
            have hMn : ∀ D ∈ Ds, D < wB.heap.size := fun D hD => (Array.getElem?_eq_some_iff.1 (hI0.marks.1 D hD).2).1
            rcases (by omega : t = 0 ∨ t = 1) with ht0 | ht0
            · have c11e : W.cell? ⟨b11, 0, Option.none⟩ = some (.int .i64 0) := by rw [hI.c11.cell 0 _ rfl, ht0]; rfl
              have hSe : Sea w ws (42000 + 5880000 * 1) g m1 m2 r d d2 W := ⟨hI.sea.bo.mono (by omega), hI.sea.keeps, hI.sea.new⟩
              have hDl1 : (wB.heap.size :: Ds).length = 1 := by simp [hDl, ht0]
              have HDL := Lib.hid hDl1
              have HDL0 := Lib.hid (hDl.trans ht0)
              clear hDl1 hDl ht0
              have hN := Blk.new W 3 [.int .i64 0]
              have kN := (Keeps.refl None W).alloc (.cells #[.int .i64 0] 3)
              have cN := hN.cell 0 _ rfl
              have fN := hN.free 0
              have hN2 := Blk.new W 3 [.int .i64 1]
              have kN2 := (Keeps.refl None W).alloc (.cells #[.int .i64 1] 3)
              have hSe2 := hSe.grew kN2
              have hM2 : Marks ws (wB.heap.size :: Ds) (W.alloc (.cells #[.int .i64 1] 3)) := Marks.keeps ⟨fun D h => by
                  rcases List.mem_cons.1 h with h | h
                  · rw [h]; exact ⟨hwsB, hD⟩
                  · exact hI.marks.1 D h, List.nodup_cons.2 ⟨fun h => Nat.lt_irrefl _ (hMn _ h), hI.marks.2⟩⟩ kN2 (fun _ _ f => f)
              clear hMn
              clear hxl
              go_wp2_with fail
              refine ⟨⟨1, d2, W.heap.size, wB.heap.size :: Ds, _, _, _, _, _, _, _, _, _, _, _, _, _, _, _, _, _, _, _, _, rfl, by omega, hSe2, hN2, hsW, hM2, HDL.out⟩, ?_⟩
              simp [cols, HDL0.out]
            · have c11e : W.cell? ⟨b11, 0, Option.none⟩ = some (.int .i64 1) := by rw [hI.c11.cell 0 _ rfl, ht0]; rfl
              have hSe : Sea w ws (42000 + 5880000 * 2) g m1 m2 r d d2 W := ⟨hI.sea.bo.mono (by omega), hI.sea.keeps, hI.sea.new⟩
              have hDl1 : (wB.heap.size :: Ds).length = 2 := by simp [hDl, ht0]
              have HDL := Lib.hid hDl1
              have HDL0 := Lib.hid (hDl.trans ht0)
              clear hDl1 hDl ht0
              have hN := Blk.new W 3 [.int .i64 1]
              have kN := (Keeps.refl None W).alloc (.cells #[.int .i64 1] 3)
              have cN := hN.cell 0 _ rfl
              have fN := hN.free 0
              have hN2 := Blk.new W 3 [.int .i64 2]
              have kN2 := (Keeps.refl None W).alloc (.cells #[.int .i64 2] 3)
              have hSe2 := hSe.grew kN2
              have hM2 : Marks ws (wB.heap.size :: Ds) (W.alloc (.cells #[.int .i64 2] 3)) := Marks.keeps ⟨fun D h => by
                  rcases List.mem_cons.1 h with h | h
                  · rw [h]; exact ⟨hwsB, hD⟩
                  · exact hI.marks.1 D h, List.nodup_cons.2 ⟨fun h => Nat.lt_irrefl _ (hMn _ h), hI.marks.2⟩⟩ kN2 (fun _ _ f => f)
              clear hMn
              obtain ⟨t1, t2⟩ := test_eq (show (xs.length : Int) = (d.LR.length : Int) by rw [hxl])
              clear hxl
              go_wp2_with fail
              refine ⟨⟨2, d2, W.heap.size, wB.heap.size :: Ds, _, _, _, _, _, _, _, _, _, _, _, _, _, _, _, _, _, _, _, _, rfl, by omega, hSe2, hN2, hsW, hM2, HDL.out⟩, ?_⟩
              simp [cols, HDL0.out]
          · rintro c pre W hSp ⟨rfl, ht0, d2, hI, hpl⟩ hD
            have hsW := hI.sea.keeps.size
            have hwsBW : wB.heap.size < W.heap.size := (Array.getElem?_eq_some_iff.1 hD).1
            have c12e := hI.c12.cell 0 _ rfl
            have cwe := (hbws.keeps hI.sea.keeps (hI.sea.low hbws.lt hoff3)).cell 0 _ rfl
            have hMn : ∀ D ∈ Ds, D < wB.heap.size := fun D hD => (Array.getElem?_eq_some_iff.1 (hI0.marks.1 D hD).2).1
            have c11e : W.cell? ⟨b11, 0, Option.none⟩ = some (.int .i64 0) := by rw [hI.c11.cell 0 _ rfl, ht0]; rfl
            have hSe : Sea w ws (42000 + 5880000 * 1) g m1 m2 r d d2 W := ⟨hI.sea.bo.mono (by omega), hI.sea.keeps, hI.sea.new⟩
            have hDl1 : (wB.heap.size :: Ds).length = 1 := by simp [hDl, ht0]
            have HDL := Lib.hid hDl1
            have HDL0 := Lib.hid (hDl.trans ht0)
            clear hDl1 hDl ht0
            have hN := Blk.new W 3 [.int .i64 0]
            have kN := (Keeps.refl None W).alloc (.cells #[.int .i64 0] 3)
            have cN := hN.cell 0 _ rfl
            have fN := hN.free 0
            have hN2 := Blk.new W 3 [.int .i64 1]
            have kN2 := (Keeps.refl None W).alloc (.cells #[.int .i64 1] 3)
            have hSe2 := hSe.grew kN2
            have hM2 : Marks ws (wB.heap.size :: Ds) (W.alloc (.cells #[.int .i64 1] 3)) := Marks.keeps ⟨fun D h => by
                rcases List.mem_cons.1 h with h | h
                · rw [h]; exact ⟨hwsB, hD⟩
                · exact hI.marks.1 D h, List.nodup_cons.2 ⟨fun h => Nat.lt_irrefl _ (hMn _ h), hI.marks.2⟩⟩ kN2 (fun _ _ f => f)
            clear hMn
            refine wpIn_wide.2 ?_
            go_wp2_with fail
            refine ⟨⟨1, d2, W.heap.size, wB.heap.size :: Ds, _, _, _, _, _, _, _, _, _, _, _, _, _, _, _, _, _, _, _, _, rfl, by omega, hSe2, hN2, hsW, hM2, HDL.out⟩, ?_⟩
            simp [cols, HDL0.out]
        · have ht2' : t = 2 := by omega
          obtain ⟨D1, D2, rfl⟩ : ∃ D1 D2, Ds = [D1, D2] := by
            match Ds, hDl.trans ht2' with
            | [a, b], _ => exact ⟨a, b, rfl⟩
          have hF7 := hSea.four hFs
          have cV0 := hF7.fw.cell 0 _ rfl
          have cV1 := hF7.fw.cell 1 _ rfl
          have h21 : D1 ≠ D2 := by have := hMk.2; simp at this; exact this
          obtain ⟨hD1s, hD1⟩ := hMk.1 D1 (by simp)
          obtain ⟨hD2s, hD2⟩ := hMk.1 D2 (by simp)
          have hD1R : D1 ≠ bR := hMk.blk hF7.fr D1 (by simp)
          have hD2R : D2 ≠ bR := hMk.blk hF7.fr D2 (by simp)
          have hlt7 : t ≤ 2 := ht
          clear ht2' hDl
          go_wp2_with fail
          refine (bunder_any W7 hSea.bo (by omega)).mono ?_
          rintro e wa ⟨rfl, hka⟩
          go_wp2_with fail
          refine (head_any wa).mono ?_
          rintro e wb ⟨rfl, hkb⟩
          have hFr := (hF7.fr.grew hka).grew hkb
          have cR0 := hFr.cell 0 _ rfl
          have fR0 := hFr.free 0
          go_wp2_with fail
          have kab := hka.trans hkb
          have hD1b := (kab.block _ (Array.getElem?_eq_some_iff.1 hD1).1 id).trans hD1
          have hD2b := (kab.block _ (Array.getElem?_eq_some_iff.1 hD2).1 id).trans hD2
          have ks : Keeps (One bR) wb (wb.setCell ⟨bR, 0, Option.none⟩ (.bool true)) := (Keeps.refl _ _).setCell _ _ (fun _ => rfl)
          have hbF : Blk (wb.setCell ⟨bR, 0, Option.none⟩ (.bool true)) bR 4 [.bool true] := by
            have := hFr.set 0 (.bool true)
            simpa using this
          have h1 : (wb.setCell ⟨bR, 0, Option.none⟩ (.bool true)).heap[D1]? = some (.deferred (some [])) := (ks.block _ (Array.getElem?_eq_some_iff.1 hD1b).1 hD1R).trans hD1b
          have h2a : (wb.setCell ⟨bR, 0, Option.none⟩ (.bool true)).heap[D2]? = some (.deferred (some [])) := (ks.block _ (Array.getElem?_eq_some_iff.1 hD2b).1 hD2R).trans hD2b
          have kp1 : Keeps (One D1) (wb.setCell ⟨bR, 0, Option.none⟩ (.bool true)) ((wb.setCell ⟨bR, 0, Option.none⟩ (.bool true)).putObj D1 (.deferred Option.none)) := keeps_putObj _ _ _
          have h2 := (kp1.block D2 (Array.getElem?_eq_some_iff.1 h2a).1 (fun e => h21 (show D2 = D1 from e).symm)).trans h2a
          have kp2 : Keeps (One D2) ((wb.setCell ⟨bR, 0, Option.none⟩ (.bool true)).putObj D1 (.deferred Option.none)) (((wb.setCell ⟨bR, 0, Option.none⟩ (.bool true)).putObj D1 (.deferred Option.none)).putObj D2 (.deferred Option.none)) := keeps_putObj _ _ _
          have hbF2 := (hbF.keeps kp1 (fun e => hD1R (show bR = D1 from e).symm)).keeps kp2 (fun e => hD2R (show bR = D2 from e).symm)
          have KF := ((((hSea.bo.keeps.trans kab).andThen ks (fun i hi e => by simp only [One] at e; omega)).andThen kp1 (fun i hi e => by simp only [One] at e; omega)).andThen kp2 (fun i hi e => by simp only [One] at e; omega))
          refine ⟨by simp, .inl ⟨_, _, rfl, run_takeDeferred h1, ⟨by simp, .inl ⟨_, _, rfl, run_takeDeferred h2, ?_⟩⟩⟩⟩
          exact ⟨_, results_n _ _ bR true rfl (hbF2.cell 0 _ rfl), rfl, KF⟩
end Go.Proofs.Ytcplogdaepmpnaa
