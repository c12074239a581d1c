/- NetPlays: every script of one Net answers as the document says, step by step, and tells the same under way at the end: for every script. No condition. -/
import Derived.Test.YtcplogdaepmpnaaBothStep
namespace Go.Proofs.Ytcplogdaepmpnaa
open Go.RowKit Go.Maps Go.ChangeMaps Go.WideElems Go.Proofs.YtcplogdaepmpnaaW.PrintLast

section
variable {o : Oper} {a : Act} {w : World}
theorem exec_load_stp (x : Operand) (ho : o.op = .load 53 x) (b j : Nat) (p : Stp) (hx : a.eval x = .pointer (some ⟨b, j, Option.none⟩)) (hp : ∀ i v, p.cells[i]? = some v → w.cell? ⟨b, j + i, Option.none⟩ = some v) :
    (execOp a.eval o).run Try.prog w = .ok (.value p.val) w := by
  have hl := run_loadVar_at w b j _ p.cells _ Try.underlying53 rfl infoStp hp
  unfold execOp
  simp only [ho, hx, Instr.loadAt, Instr.sureAddr, Sem.run_bind, Sem.run_pure, Result.andThen_ok, hl]
  rfl
end

/-- Both nets, new. -/
theorem Bo.new {w w1 w2 : World} {g m1 m2 r : Nat} (hN : Nt w1 g w.heap.size (.slice Option.none 0 0) m1 m2 [] 0 (fun _ => 0) (fun _ => 0)) (hk1 : Keeps None w w1) (hk2 : Keeps None w1 w2) (hr : Blk w2 r 48 [.slice Option.none 0 0, .slice Option.none 0 0]) (hge : w.heap.size ≤ r) :
    Bo w 0 g m1 m2 r ⟨.slice Option.none 0 0, [], fun _ => 0, fun _ => 0, .slice Option.none 0 0, .slice Option.none 0 0, [], []⟩ w2 :=
  ⟨hN.grew hk2, ⟨hr, World.ownsRow_nil _ _ _ _, World.ownsRow_nil _ _ _ _, hge, fun x hx => (by cases hx)⟩, rfl, fun _ => rfl, Nat.le_refl _, Inv.nil, fun x hx => (by cases hx), fun x hx => (by cases hx), fun b hb => (by cases hb), hk1.trans hk2⟩
/-- A block that neither writes stays so. -/
theorem Goes.off {w w' : World} {g m1 m2 r b : Nat} {d d' : Bd} (h : Goes g m1 m2 r d d' w w') (hb : ¬ MineB g m1 m2 r d b) (hl : b < w.heap.size) : ¬ MineB g m1 m2 r d' b := fun e => by
  rcases h.new b e with q | q
  · exact hb q
  · omega

set_option maxRecDepth 100000 in
set_option maxHeartbeats 8000000 in
theorem plays_any (A : Option Addr) (n cap : Nat) (its : List Stp) (w : World) (hA : StpsAt w A its) (hR : ∀ x ∈ its, x.Raw w) (hn : its.length = n) (hr : n ≤ 140737488351232) :
    Calls Try.prog 5 #[.slice A n cap] w fun e w' => e = .returned (.bool true) ∧ Keeps None w w' := by
  subst hn
  go_enter Try.func5, Try.ntmps5
  go_wp2_with fail
  refine (nnew_any w).mono ?_
  rintro e w1 ⟨g, m1, m2, rfl, hN, hk1⟩
  have hgl := hN.blk.lt
  have hm1 := hN.sent.lt
  have hm2 := hN.many.lt
  have hbr := (Blk.new w1 48 [.slice Option.none 0 0, .slice Option.none 0 0]).alloc (.cells #[.pointer (some ⟨g, 0, Option.none⟩), .pointer (some ⟨w1.heap.size, 0, Option.none⟩)] 50)
  have hk2 := ((Keeps.refl None w1).alloc (.cells #[.slice Option.none 0 0, .slice Option.none 0 0] 48)).alloc (.cells #[.pointer (some ⟨g, 0, Option.none⟩), .pointer (some ⟨w1.heap.size, 0, Option.none⟩)] 50)
  have hbW : Blk ((w1.alloc (.cells #[.slice Option.none 0 0, .slice Option.none 0 0] 48)).alloc (.cells #[.pointer (some ⟨g, 0, Option.none⟩), .pointer (some ⟨w1.heap.size, 0, Option.none⟩)] 50)) (w1.heap.size + 1) 50 [.pointer (some ⟨g, 0, Option.none⟩), .pointer (some ⟨w1.heap.size, 0, Option.none⟩)] := by
    have := Blk.new (w1.alloc (.cells #[.slice Option.none 0 0, .slice Option.none 0 0] 48)) 50 [.pointer (some ⟨g, 0, Option.none⟩), .pointer (some ⟨w1.heap.size, 0, Option.none⟩)]
    simpa using this
  have hB0 := Bo.new hN hk1 hk2 hbr hk1.size
  go_wp2_with fail
  have hsz := hk2.size
  have hbWl := hbW.lt
  have hoff : ¬ MineB g m1 m2 w1.heap.size ⟨.slice Option.none 0 0, [], fun _ => 0, fun _ => 0, .slice Option.none 0 0, .slice Option.none 0 0, [], []⟩ (w1.heap.size + 1) := by
    rintro ((e | e | e | e) | (e | e | e))
    · omega
    · omega
    · omega
    · cases e
    · omega
    · cases e
    · cases e
  obtain ⟨bW, ebW⟩ : ∃ bW, bW = w1.heap.size + 1 := ⟨_, rfl⟩
  rw [← ebW] at hbW hbWl hoff ⊢
  obtain ⟨r, er⟩ : ∃ r, r = w1.heap.size := ⟨_, rfl⟩
  rw [← er] at hB0 hbW hoff ⊢
  clear er ebW hbr hgl hm1 hm2 hN
  obtain ⟨d0, ed0⟩ : ∃ d0 : Bd, d0 = ⟨.slice Option.none 0 0, [], fun _ => 0, fun _ => 0, .slice Option.none 0 0, .slice Option.none 0 0, [], []⟩ := ⟨_, rfl⟩
  rw [← ed0] at hB0 hoff
  clear ed0
  go_loopw [4] (fun i wr => ∃ (k : Nat) (d : Bd), k ≤ its.length ∧ k ≤ 300 ∧ i = .int .i64 k ∧ Bo w (140 * k) g m1 m2 r d wr ∧ Blk wr bW 50 [.pointer (some ⟨g, 0, Option.none⟩), .pointer (some ⟨r, 0, Option.none⟩)] ∧ ¬ MineB g m1 m2 r d bW) (fun i _ => its.length - (intOf i).toNat)
  case atStart => exact ⟨0, d0, Nat.zero_le _, by omega, rfl, hB0, hbW, hoff⟩
  case round =>
    clear hB0 hbW hoff hk1 hk2 hsz hbWl
    obtain ⟨k, d, hk, hk3, rfl, hB, hbW, hoff⟩ := hrel
    have cW0 := hbW.cell 0 _ rfl
    have cW1 := hbW.cell 1 _ rfl
    rcases (by omega : (k < its.length ∧ k < 300) ∨ ¬ k < its.length ∨ (k < its.length ∧ ¬ k < 300)) with hgo | hend | hend
    · obtain ⟨hlt, h300⟩ := hgo
      obtain ⟨x, hx⟩ : ∃ x, its[k]? = some x := ⟨_, List.getElem?_eq_getElem hlt⟩
      have hxw := hR x (List.mem_of_getElem? hx)
      obtain ⟨b, o, rfl, hxc⟩ := hA.grew hB.keeps k x hx
      go_wp2_with fail
      refine start_ (ds := [5]) (S := (fun w' => Keeps None wr w')) #[false, false, false, false, false, false, false] (by kernel_rfl) rfl rfl ((Keeps.refl _ _).drew) (fun hS0 => ?_)
      refine take_ (i := 0) (N := some 22) (v := wV g r) #[true, false, false, false, false, false, false] rfl rfl (by kernel_rfl) (fun _ _ _ h => h) (Or.inl ⟨wanted_none rfl, by intro w' hSw; have q0 := hSw.cell cW0 id; have q1 := hSw.cell cW1 id; simp only [wV]; go_simp⟩) hS0 rfl ?_
      try simp only [Act.put, List.setIfInBounds_toArray, List.set_cons_zero, List.set_cons_succ]
      refine pure_ (i := 1) (N := some 23) (v := .slice (some ⟨b, o, Option.none⟩) its.length cap) #[true, true, false, false, false, false, false] rfl rfl (by kernel_rfl) (fun _ _ _ h => h) (Or.inl ⟨wanted_none rfl, fun w => by rfl⟩) rfl ?_
      try simp only [Act.put, List.setIfInBounds_toArray, List.set_cons_zero, List.set_cons_succ]
      refine pure_ (i := 2) (N := some 24) (v := .int .i64 (k : Int)) #[true, true, true, false, false, false, false] rfl rfl (by kernel_rfl) (fun _ _ _ h => h) (Or.inl ⟨wanted_none rfl, fun w => by rfl⟩) rfl ?_
      try simp only [Act.put, List.setIfInBounds_toArray, List.set_cons_zero, List.set_cons_succ]
      refine pure_ (i := 3) (N := some 25) (v := .pointer (some ⟨b, o + k * 7, Option.none⟩)) #[true, true, true, true, false, false, false] rfl rfl (by kernel_rfl) (fun _ _ _ h => h) (Or.inl ⟨wanted_none rfl, fun w => by go_simp⟩) rfl ?_
      try simp only [Act.put, List.setIfInBounds_toArray, List.set_cons_zero, List.set_cons_succ]
      refine take_ (i := 4) (N := some 26) (v := x.val) #[true, true, true, true, true, false, false] rfl rfl (by kernel_rfl) (fun _ _ _ h => h) (Or.inl ⟨wanted_none rfl, by intro w' hSw; exact exec_load_stp (.tmp 25) rfl b (o + k * 7) x rfl (fun i v hv => hSw.cell (hxc i v hv) id)⟩) hS0 rfl ?_
      try simp only [Act.put, List.setIfInBounds_toArray, List.set_cons_zero, List.set_cons_succ]
      refine last_ (i := 5) (oi := ({ dst := some 27, op := Op.call { callee := Callee.value (Operand.func 20), args := #[Operand.tmp 22, Operand.tmp 26], argTypes := #[50, 53] }, type := 4, pos := "law.go:139", after := #[{ on := 0, ground := Ground.data }, { on := 4, ground := Ground.data }], guard := Option.none } : Oper)) (N := some 27) #[true, true, true, true, true, true, false] rfl rfl (by kernel_rfl) (by decide) ?_
      intro KK hKK
      refine goes_ Try.func20 (by kernel_rfl) rfl #[wV g r, x.val] (wanted_none rfl) rfl rfl (by simp [Act.eval]) ?_
      refine (bstep_any x wr.drew (hB.grew (Keeps.refl None wr).drew) hxw (by omega)).mono ?_
      rintro e wb ⟨rfl, d', hB', hG⟩
      refine ⟨_, rfl, hKK.out _ _ ?_⟩
      try simp only [Act.put, List.setIfInBounds_toArray, List.set_cons_zero, List.set_cons_succ]
      refine pure_ (i := 6) (N := some 28) (v := .bool false) #[true, true, true, true, true, true, true] rfl rfl (by kernel_rfl) (fun _ _ _ h => h) (Or.inl ⟨wanted_none rfl, fun w => by go_simp⟩) rfl ?_
      try simp only [Act.put, List.setIfInBounds_toArray, List.set_cons_zero, List.set_cons_succ]
      refine done_ (by kernel_rfl) ?_
      go_wp2_with fail
      go_roundw
      case rel => exact ⟨k + 1, d', by omega, by omega, by go_num, hB'.mono (by omega), (hbW.grew (Keeps.refl None wr).drew).keeps hG.keeps hoff, hG.off hoff hbW.lt⟩
      case measure => simp [intOf]; omega
    all_goals
      go_wp2_with fail
      refine (bunder_any wr hB (by omega)).mono ?_
      rintro e wb ⟨rfl, hkb⟩
      go_wp2_with fail
      refine (head_any wb).mono ?_
      rintro e wc ⟨rfl, hkc⟩
      go_wp2_with fail
      go_ret
      exact ⟨rfl, (hB.keeps.trans hkb).trans hkc⟩
end Go.Proofs.Ytcplogdaepmpnaa
