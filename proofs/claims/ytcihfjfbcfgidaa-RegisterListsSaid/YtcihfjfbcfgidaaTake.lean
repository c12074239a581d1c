/- The machine's Take. -/
import Derived.Test.YtcihfjfbcfgidaaAnswer2
import Derived.Handy
import Derived.StillTailTactics
import Derived.Laws.Rows
namespace Go.Proofs.Ytcihfjfbcfgidaa
open Go.RowKit Go.Maps

set_option maxRecDepth 100000 in
theorem neq_addr (a : Bool) (b : Int) (c : Bool) (d : Int) (w : World) : (binOp .neq 58 (.agg #[.bool a, .int .i64 b]) (.agg #[.bool c, .int .i64 d])).run Try.prog w = .ok (.bool (!decide (a = c ∧ b = d))) w := by
  by_cases h2 : b = d
  · obtain ⟨t3, t4⟩ := test_eq h2
    cases a <;> cases c <;> simp only [h2, and_true, and_false, decide_true, decide_false, Bool.not_true, Bool.not_false, reduceCtorEq] <;> clear h2 <;> go_simp
  · obtain ⟨t3, t4⟩ := test_ne h2
    rw [show decide (a = c ∧ b = d) = false from by simp [h2]]
    clear h2
    cases a <;> cases c <;> go_simp
set_option maxRecDepth 100000 in
theorem neq_key (a0 a1 a2 a3 b0 b1 b2 b3 : Int) (w : World) : (binOp .neq 51 (.agg #[.int .i64 a0, .int .i64 a1, .int .i64 a2, .int .i64 a3]) (.agg #[.int .i64 b0, .int .i64 b1, .int .i64 b2, .int .i64 b3])).run Try.prog w = .ok (.bool (!decide (a0 = b0 ∧ a1 = b1 ∧ a2 = b2 ∧ a3 = b3))) w := by
  by_cases h0 : a0 = b0
  · obtain ⟨t1, t2⟩ := test_eq h0
    by_cases h1 : a1 = b1
    · obtain ⟨t3, t4⟩ := test_eq h1
      by_cases h2 : a2 = b2
      · obtain ⟨t5, t6⟩ := test_eq h2
        by_cases h3 : a3 = b3
        · obtain ⟨t7, t8⟩ := test_eq h3
          rw [show decide (a0 = b0 ∧ a1 = b1 ∧ a2 = b2 ∧ a3 = b3) = true from by simp [h0, h1, h2, h3]]
          clear h0 h1 h2 h3
          go_simp
        · obtain ⟨t7, t8⟩ := test_ne h3
          rw [show decide (a0 = b0 ∧ a1 = b1 ∧ a2 = b2 ∧ a3 = b3) = false from by simp [h3]]
          clear h0 h1 h2 h3
          go_simp
      · obtain ⟨t5, t6⟩ := test_ne h2
        rw [show decide (a0 = b0 ∧ a1 = b1 ∧ a2 = b2 ∧ a3 = b3) = false from by simp [h2]]
        clear h0 h1 h2
        go_simp
    · obtain ⟨t3, t4⟩ := test_ne h1
      rw [show decide (a0 = b0 ∧ a1 = b1 ∧ a2 = b2 ∧ a3 = b3) = false from by simp [h1]]
      clear h0 h1
      go_simp
  · obtain ⟨t1, t2⟩ := test_ne h0
    rw [show decide (a0 = b0 ∧ a1 = b1 ∧ a2 = b2 ∧ a3 = b3) = false from by simp [h0]]
    clear h0
    go_simp

/-- Nothing is done: the machine stands as it stood. -/
theorem Mach.stay {w w' : World} {base g : Nat} {X : Nat → Prop} {h : Hd} {round : Int} {ph : Ph} (hM : Mach w base X g h round ph) (hk : Keeps None w w') : StepEnd w base X g h round ph .no (.returned (.slice Option.none 0 0)) w' := by
  have hs := hk.size
  have hgl := hM.lt
  exact ⟨X, w'.heap.size, _, rfl, hM.grew hk, rfl, fun _ h => h, fun b hb => .inl hb, fun b hb => Nat.lt_of_lt_of_le (hM.X b hb).2 hs, hs, hk.of_none⟩
/-- Ahead of it, memory of the call's own. -/
theorem StepEnd.from {w W w' : World} {base g : Nat} {X : Nat → Prop} {h : Hd} {round : Int} {ph : Ph} {out : OutS} {e : Ending} (hs : StepEnd W base X g h round ph out e w') (hk : Keeps None w W) : StepEnd w base X g h round ph out e w' := by
  obtain ⟨X', B, u, he, hM, ho, h1, h2, h3, h4, h5⟩ := hs
  have := hk.size
  exact ⟨X', B, u, he, hM, ho, h1, fun b hb => (h2 b hb).imp id (fun h => by omega), h3, by omega, hk.of_none.trans h5⟩

/-- Does the message fit the machine? -/
def fitsF (h : Hd) (round : Int) (fc : Bool) (tc : Bool) (ti op rd q0 q1 q2 q3 : Int) : Bool :=
  !fc && decide (tc = true ∧ ti = h.client) && decide (op = h.op) && decide (rd = round) && decide (q0 = h.k0 ∧ q1 = h.k1 ∧ q2 = h.k2 ∧ q3 = h.k3)
def takeF (h : Hd) (round : Int) (ph : Ph) (kind s : Int) (st : Int × Int) (ds : List Int) (fits : Bool) : Int × Ph × OutS :=
  if fits then match ph with
    | .asking qs => askF h round qs kind s st ds
    | .laying ss tag d => layF h round ss tag d kind s
    | p => (round, p, .no)
  else (round, ph, .no)

theorem sizeMsg {cs : Array Value} (h : cs.size = 30) : (Try.prog.info? 66).map (·.size) = some cs.size := by rw [h]; kernel_rfl
theorem exec_load_msg {a : Act} {o : Oper} {w : World} (x : Operand) (ho : o.op = .load 66 x) (g : Nat) (hx : a.eval x = .pointer (some ⟨g, 0, Option.none⟩)) (cs : List Value) (hB : Blk w g 66 cs) (hl : cs.length = 30) : (execOp a.eval o).run Try.prog w = .ok (.value (.agg cs.toArray)) w := by
  unfold execOp
  simp only [ho, hx, Instr.loadAt, Instr.sureAddr, Sem.run_bind, Sem.run_pure, Result.andThen_ok, run_loadVar_row w g 66 66 cs.toArray (0, 0) _ hB.raw Try.underlying66 rfl (sizeMsg (by simpa using hl))]
theorem still_load_msg {ops : Array Oper} {w : World} {Q : Act → Prop} {a : Act} {o : Oper} {rest : List Oper} (hgd : o.guard = Option.none) (x : Operand) (ho : o.op = .load 66 x) (g : Nat) (hx : a.eval x = .pointer (some ⟨g, 0, Option.none⟩)) (cs : List Value) (hB : Blk w g 66 cs) (hl : cs.length = 30)
    (h : wpStill Try.prog ops w Q rest (a.put o.dst (.agg cs.toArray))) : wpStill Try.prog ops w Q (o :: rest) a := by
  unfold wpStill
  rw [if_pos (wanted_none hgd)]
  unfold Oper.still
  rw [exec_load_msg x ho g hx cs hB hl]
  exact ⟨rfl, h⟩

set_option maxRecDepth 100000 in
set_option maxHeartbeats 1600000 in
theorem fresh_answer (g : Nat) (m : Value) (w : World) : Calls Try.prog 91 #[.agg #[], .pointer (some ⟨g, 0, Option.none⟩), m] w fun e w' => e = .returned (.slice Option.none 0 0) ∧ Keeps None w w' := by
  go_enter Try.func91, Try.ntmps91
  go_wp2_with fail
  all_goals
    go_ret
    exact ⟨rfl, ((Keeps.refl _ _).alloc _).alloc _⟩
set_option maxRecDepth 100000 in
set_option maxHeartbeats 1600000 in
theorem ended_answer (g : Nat) (v m : Value) (w : World) : Calls Try.prog 110 #[v, .pointer (some ⟨g, 0, Option.none⟩), m] w fun e w' => e = .returned (.slice Option.none 0 0) ∧ Keeps None w w' := by
  go_enter Try.func110, Try.ntmps110
  go_wp2_with fail
  all_goals
    go_ret
    exact ⟨rfl, ((Keeps.refl _ _).alloc _).alloc _⟩

set_option maxRecDepth 100000 in
set_option maxHeartbeats 8000000 in
theorem take_any (g base : Nat) (X : Nat → Prop) (h : Hd) (round : Int) (ph : Ph) (kind : Int) (fc : Bool) (fi : Int) (tc : Bool) (ti op rd q0 q1 q2 q3 s1 s2 h1 h2 : Int) (A : Option Addr) (cap : Nat) (zs : List Int) (c0 c1 c2 : Int) (nm : ByteArray) (c3 c4 c5 c6 c7 up : Int) (E : Option Addr) (en ec : Nat) (L : Option Addr) (ln lc : Nat) (D : Option Addr) (dn dc : Nat) (more : Bool) (w : World)
    (hM : Mach w base X g h round ph) (hZ : Nums .u8 w A zs) (hz : zs.length ≤ 140737488351232) (hfi : (Lit.int .i64 fi).wf = true) :
    Calls Try.prog 87 #[.pointer (some ⟨g, 0, Option.none⟩), .agg #[.int .i64 kind, .bool fc, .int .i64 fi, .bool tc, .int .i64 ti, .int .i64 op, .int .i64 rd, .int .i64 q0, .int .i64 q1, .int .i64 q2, .int .i64 q3, .int .i64 s1, .int .i64 s2, .int .i64 h1, .int .i64 h2, .slice A zs.length cap, .int .i64 c0, .int .i64 c1, .int .i64 c2, .string nm, .int .i64 c3, .int .i64 c4, .int .i64 c5, .int .i64 c6, .int .i64 c7, .int .i64 up, .slice E en ec, .slice L ln lc, .slice D dn dc, .bool more]] w
      (StepEnd w base X g h (takeF h round ph kind fi (s1, s2) zs (fitsF h round fc tc ti op rd q0 q1 q2 q3)).1 (takeF h round ph kind fi (s1, s2) zs (fitsF h round fc tc ti op rd q0 q1 q2 q3)).2.1 (takeF h round ph kind fi (s1, s2) zs (fitsF h round fc tc ti op rd q0 q1 q2 q3)).2.2) := by
  obtain ⟨W, hW⟩ : ∃ W, W = w.alloc (.cells #[.int .i64 kind, .bool fc, .int .i64 fi, .bool tc, .int .i64 ti, .int .i64 op, .int .i64 rd, .int .i64 q0, .int .i64 q1, .int .i64 q2, .int .i64 q3, .int .i64 s1, .int .i64 s2, .int .i64 h1, .int .i64 h2, .slice A zs.length cap, .int .i64 c0, .int .i64 c1, .int .i64 c2, .string nm, .int .i64 c3, .int .i64 c4, .int .i64 c5, .int .i64 c6, .int .i64 c7, .int .i64 up, .slice E en ec, .slice L ln lc, .slice D dn dc, .bool more] 66) := ⟨_, rfl⟩
  have kW : Keeps None w W := by rw [hW]; exact (Keeps.refl None w).alloc _
  have hX : Blk W w.heap.size 66 [.int .i64 kind, .bool fc, .int .i64 fi, .bool tc, .int .i64 ti, .int .i64 op, .int .i64 rd, .int .i64 q0, .int .i64 q1, .int .i64 q2, .int .i64 q3, .int .i64 s1, .int .i64 s2, .int .i64 h1, .int .i64 h2, .slice A zs.length cap, .int .i64 c0, .int .i64 c1, .int .i64 c2, .string nm, .int .i64 c3, .int .i64 c4, .int .i64 c5, .int .i64 c6, .int .i64 c7, .int .i64 up, .slice E en ec, .slice L ln lc, .slice D dn dc, .bool more] := by rw [hW]; exact Blk.new w _ _
  have hMW := hM.grew kW
  obtain ⟨v, bl, st, hB, hR, hv, hU, hbl, hst⟩ := hMW.out
  have m1 := hX.cell 1 _ rfl
  have m3 := hX.cell 3 _ rfl
  have m4 := hX.cell 4 _ rfl
  have m5 := hX.cell 5 _ rfl
  have m6 := hX.cell 6 _ rfl
  have m7 := hX.cell 7 _ rfl
  have m8 := hX.cell 8 _ rfl
  have m9 := hX.cell 9 _ rfl
  have m10 := hX.cell 10 _ rfl
  have b0 := hB.cell 0 _ rfl
  have b1 := hB.cell 1 _ rfl
  have b2 := hB.cell 2 _ rfl
  have b4 := hB.cell 4 _ rfl
  have b5 := hB.cell 5 _ rfl
  have b6 := hB.cell 6 _ rfl
  have b7 := hB.cell 7 _ rfl
  obtain ⟨F, hF⟩ : ∃ F, F = fitsF h round fc tc ti op rd q0 q1 q2 q3 := ⟨_, rfl⟩
  obtain ⟨Ta, hTa⟩ : ∃ T, T = decide (tc = true ∧ ti = h.client) := ⟨_, rfl⟩
  obtain ⟨Tk, hTk⟩ : ∃ T, T = decide (q0 = h.k0 ∧ q1 = h.k1 ∧ q2 = h.k2 ∧ q3 = h.k3) := ⟨_, rfl⟩
  obtain ⟨To, hTo⟩ : ∃ T, T = decide (op = h.op) := ⟨_, rfl⟩
  obtain ⟨Tr, hTr⟩ : ∃ T, T = decide (rd = round) := ⟨_, rfl⟩
  have hFF : Hid (F = (!fc && Ta && To && Tr && Tk)) := Lib.hid (by rw [hF, hTa, hTo, hTr, hTk]; rfl)
  have hca : ∀ w, (binOp .neq 58 (.agg #[.bool tc, .int .i64 ti]) (.agg #[.bool true, .int .i64 h.client])).run Try.prog w = .ok (.bool (!Ta)) w := fun w => by rw [neq_addr, hTa]
  have hck : ∀ w, (binOp .neq 51 (.agg #[.int .i64 q0, .int .i64 q1, .int .i64 q2, .int .i64 q3]) (.agg #[.int .i64 h.k0, .int .i64 h.k1, .int .i64 h.k2, .int .i64 h.k3])).run Try.prog w = .ok (.bool (!Tk)) w := fun w => by rw [neq_key, hTk]
  have tco : (op != h.op) = !To := by rw [hTo]; by_cases e : op = h.op <;> simp [e]
  have tcr : (rd != round) = !Tr := by rw [hTr]; by_cases e : rd = round <;> simp [e]
  rw [← hF]
  clear hF hTa hTk hTo hTr
  go_enter Try.func87, Try.ntmps87
  go_upto_region 1 with (fail)
  rw [← hW]
  clear hW
  go_cut [44] from 5 to 44 (fun c wx => c = .bool (!F) ∧ Drew W wx)
  case first =>
    cases fc with
    | true =>
      have hF1 : F = false := by rw [hFF.out]; rfl
      subst hF1
      go_quiet (fail)
      go_wp2
      go_meet
      exact ⟨rfl, ⟨_, rfl⟩⟩
    | false =>
      cases Ta with
      | false =>
        have hF1 : F = false := by rw [hFF.out]; rfl
        subst hF1
        go_quiet (fail)
        go_wp2
        go_meet
        exact ⟨rfl, ⟨_, rfl⟩⟩
      | true =>
        cases To with
        | false =>
          have hF1 : F = false := by rw [hFF.out]; rfl
          subst hF1
          go_quiet (fail)
          go_wp2
          go_meet
          exact ⟨rfl, ⟨_, rfl⟩⟩
        | true =>
          cases Tr with
          | false =>
            have hF1 : F = false := by rw [hFF.out]; rfl
            subst hF1
            go_quiet (fail)
            go_wp2
            go_meet
            exact ⟨rfl, ⟨_, rfl⟩⟩
          | true =>
            cases Tk with
            | false =>
              have hF1 : F = false := by rw [hFF.out]; rfl
              subst hF1
              go_quiet (fail)
              go_wp2
              go_meet
              exact ⟨rfl, ⟨_, rfl⟩⟩
            | true =>
              have hF1 : F = true := by rw [hFF.out]; rfl
              subst hF1
              go_quiet (fail)
              go_wp2
              go_meet
              exact ⟨rfl, ⟨_, rfl⟩⟩
  case rest =>
    obtain ⟨rfl, hdr⟩ := hcut
    have kc := hdr.keeps None
    have hMc := hMW.grew kc
    have hXc := hX.grew kc
    have kwc := kW.trans kc
    clear hFF hca hck tco tcr m1 m3 m4 m5 m6 m7 m8 m9 m10 b0 b1 b2 b4 b5 b6 b7 hdr hX hMW hB hR hU hst
    cases F with
    | false =>
      have hfin := (hM.stay kwc)
      have HF := Lib.hid hfin
      clear hfin
      go_wp2_with fail
      go_ret
      simp only [takeF]
      exact HF.out
    | true =>
      obtain ⟨v, bl, st, hB, hR, hv, hU, hbl, hst⟩ := hMc.out
      have b12 := hB.cell 12 _ rfl
      have hMd := hMc.grew (Keeps.refl None wc).drew
      have kwd := kwc.trans (Keeps.refl None wc).drew
      have hZd := hZ.grew kwd
      go_wp2_with fail
      refine wp_region_still_tail 6 (by kernel_rfl) (by kernel_rfl) ?_
      simp only [List.take_succ_cons, List.take_zero, List.drop_succ_cons, List.drop_zero]
      still_step
      still_step
      still_step
      still_step
      still_step
      refine still_load_msg rfl (.tmp 3) rfl w.heap.size rfl [.int .i64 kind, .bool fc, .int .i64 fi, .bool tc, .int .i64 ti, .int .i64 op, .int .i64 rd, .int .i64 q0, .int .i64 q1, .int .i64 q2, .int .i64 q3, .int .i64 s1, .int .i64 s2, .int .i64 h1, .int .i64 h2, .slice A zs.length cap, .int .i64 c0, .int .i64 c1, .int .i64 c2, .string nm, .int .i64 c3, .int .i64 c4, .int .i64 c5, .int .i64 c6, .int .i64 c7, .int .i64 up, .slice E en ec, .slice L ln lc, .slice D dn dc, .bool more] (hXc.grew (Keeps.refl None wc).drew) rfl ?_
      refine wpStill_nil ?_
      change wpList _ _ _ _ _ wc.drew
      simp only [Act.put, List.setIfInBounds_toArray, List.set_cons_zero, List.set_cons_succ]
      clear hXc b12
      have hBd := hB.grew (Keeps.refl None wc).drew
      have hRd := hR.grew (Keeps.refl None wc).drew
      have hUd := hU.grew (Keeps.refl None wc).drew
      have hstd := hst.keeps (Keeps.refl None wc).drew (fun _ _ => id)
      obtain ⟨wd, hwd⟩ : ∃ wd, wd = wc.drew := ⟨_, rfl⟩
      rw [← hwd] at hMd kwd hZd hBd hRd hUd hstd ⊢
      clear hwd hB hR hU hst hMc
      cases ph with
      | fresh =>
        obtain rfl : st = freshV := hstd
        simp only [freshV]
        have HF := Lib.hid (hM.stay (w' := wd) kwd)
        go_wp2_with fail
        refine (fresh_answer g _ wd).mono ?_
        rintro e w5 ⟨rfl, hk5⟩
        go_wp2_with fail
        go_ret
        simp only [takeF]
        exact hM.stay (kwd.trans hk5)
      | asking qs =>
        obtain ⟨tg, vg, bm, rs, rfl, rfl, hT, hrs, h5, h6, h7, h8, h9, h10⟩ := hstd
        simp only [askV]
        have hcall := answer1_any g base X h round v bl tg vg bm rs kind fc fi tc ti op rd q0 q1 q2 q3 s1 s2 h1 h2 A cap zs c0 c1 c2 nm c3 c4 c5 c6 c7 up E en ec L ln lc D dn dc more wd hMd.g hMd.X hMd.ok hBd hRd hv hUd hbl hT hrs h5 h6 h7 ⟨h8, h9⟩ h10 hZd hz hfi
        obtain ⟨Rr, hRr⟩ : ∃ R, R = askF h round (rs.map Rec.ans) kind fi (s1, s2) zs := ⟨_, rfl⟩
        rw [← hRr] at hcall
        have e0 : takeF h round (.asking (rs.map Rec.ans)) kind fi (s1, s2) zs true = Rr := by rw [hRr]; simp [takeF]
        have HE := Lib.hid e0
        clear hRr e0 hM hMd hBd hRd hUd hT hrs
        go_wp2_with fail
        refine hcall.mono ?_
        rintro e w5 hstep
        obtain ⟨X', B, u, rfl, hrest⟩ := hstep
        go_wp2_with fail
        go_ret
        rw [HE.out]
        exact StepEnd.from ⟨X', B, u, rfl, hrest⟩ kwd
      | laying ss tag dd =>
        obtain ⟨tg, vg, bm, dv, rfl, hT, hdr, hdi, hdl, h5, h6, h7, h8, h9, h10⟩ := hstd
        obtain ⟨t1, t2⟩ := tag
        obtain ⟨Ad, cd, rfl⟩ := hdr.slice
        simp only [layV] at *
        have hcall := answer2_any g base X h round v bl tg vg bm ss t1 t2 Ad cd dd kind fc fi tc ti op rd q0 q1 q2 q3 s1 s2 h1 h2 A cap zs c0 c1 c2 nm c3 c4 c5 c6 c7 up E en ec L ln lc D dn dc more wd hMd.g hMd.X hMd.ok hBd hRd hv hUd hbl hT hdr hdi hdl h5 h6 h7 ⟨h8, h9⟩ h10 hfi
        obtain ⟨Rr, hRr⟩ : ∃ R, R = layF h round ss (t1, t2) dd kind fi := ⟨_, rfl⟩
        rw [← hRr] at hcall
        have e0 : takeF h round (.laying ss (t1, t2) dd) kind fi (s1, s2) zs true = Rr := by rw [hRr]; simp [takeF]
        have HE := Lib.hid e0
        clear hRr e0 hM hMd hBd hRd hUd hT
        go_wp2_with fail
        refine hcall.mono ?_
        rintro e w5 hstep
        obtain ⟨X', B, u, rfl, hrest⟩ := hstep
        go_wp2_with fail
        go_ret
        rw [HE.out]
        exact StepEnd.from ⟨X', B, u, rfl, hrest⟩ kwd
      | ended err tag dd =>
        obtain ⟨dv, rfl, -⟩ := hstd
        simp only [endV]
        go_wp2_with fail
        refine (ended_answer g _ _ wd).mono ?_
        rintro e w5 ⟨rfl, hk5⟩
        go_wp2_with fail
        go_ret
        simp only [takeF]
        exact hM.stay (kwd.trans hk5)
end Go.Proofs.Ytcihfjfbcfgidaa
