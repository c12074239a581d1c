/- The reference's Read of bytes. -/
import Derived.Test.YtnhhmkgcgogddaaRRead
namespace Go.Proofs.Ytnhhmkgcgogddaa
open Go.RowKit Go.Proofs.YtnhhmkgcgogddaaW.PrintLast
set_option linter.unusedVariables false

/-- append as one step of a region that draws. -/
theorem step_append_row {P : Program} (w : World) {ops : Array Oper} {o : Oper} {a : Act} {N : Option Tmp} {K : Act → World → Prop} {Q : Exit → Act → World → Prop} (hw : Region.wanted o (yielded ops a.tmps) = true) (hN : o.dst = N) (s x : Operand) (t : TypeId)
    (ho : o.op = .call { callee := .builtin .append, args := #[s, x], argTypes := #[t, t] })
    (base : Nat) (e : TypeId) (i : TypeInfo) (z : Value) (size bytes : Nat) (ht : P.underlying t = some (.slice e)) (hi : P.info? e = some i) (hz : i.zero = some z)
    (hsize : i.size = size) (hby : i.bytes = bytes) (hzs : z.cells.size = size) (hsz : 0 < size)
    (v : Value) (n : Nat) (xs : List Value) (hs : a.eval s = v) (hown : w.ownsRow base e size v n xs)
    (A : Option Addr) (m c : Nat) (news : List Value) (hx : a.eval x = .slice A m c) (hl : news.length = m * size) (hnil : A = Option.none → c = 0)
    (hsrc : 0 < news.length → ∃ ad, A = some ad ∧ ∀ j u, news[j]? = some u → w.cell? (ad.add j) = some u) (h1 : ∀ u ∈ news, u.oneCell' = true)
    (h63 : n + m ≤ maxLen) (hbytes : (n + m) * bytes ≤ 140737488355328) (hbase : base ≤ w.heap.size)
    (h : ∀ v' w', w'.ownsRow base e size v' (n + m) (xs ++ news) → Keeps (OwnB v) w w' → (v'.ownBlock = v.ownBlock ∨ v'.ownBlock = some w.heap.size) → K (a.put N v') w') :
    if Region.wanted o (yielded ops a.tmps) = true then Oper.wp P o a w K Q else K (a.put N undef) w := by
  obtain ⟨v', w', hr, h2, h3, h4⟩ := run_append_row (P := P) w base t o.type e i z size bytes ht hi hz hsize hby hzs hsz v n xs hown A m c news hl hnil hsrc h1 h63 hbytes hbase
  subst hN
  rw [if_pos hw]
  unfold Oper.wp execOp
  simp only [ho, resolve, invoke, builtin, Sem.run_bind, Sem.run_pure, Result.andThen_ok, List.map_toArray, List.map_cons, List.map_nil, hs, hx, hr]
  exact h v' w' h2 h3 h4

def RefByt (kind : Int) (r1 : List Int × St) (r : Nat) (A : Option Addr) (n cap : Nat) (w : World) (e : Ending) (w' : World) : Prop :=
  ∃ v2, e = .returned (.agg #[.int .i64 kind, .int .i64 0, v2]) ∧ Row .u8 5 w' w.heap.size v2 r1.1 ∧ RR w' r A n cap r1.2 ∧ Keeps (One r) w w'

set_option maxRecDepth 100000 in
set_option maxHeartbeats 3200000 in
theorem refread_byt (zs : List Int) (r : Nat) (A : Option Addr) (n cap : Nat) (s : St) (w : World) (h : RR w r A n cap s) (hA : Nums .u8 w A zs) (hn : zs.length = n) (hr : n ≤ 140737488351232) (hb : Bytes zs) (hoff : 0 < zs.length → Off A (One r)) (kind : Int) (hk1 : ¬ kind = 1) (hk2 : ¬ kind = 2) (hc : n ≤ cap) :
    Calls Try.prog 52 #[.pointer (some ⟨r, 0, Option.none⟩), .int .i64 kind] w (RefByt kind (bytStep zs s) r A n cap w) := by
  subst hn
  obtain ⟨t5, t6⟩ := test_ne hk1
  obtain ⟨t7, t8⟩ := test_ne hk2
  obtain ⟨p, err, place⟩ := s
  obtain ⟨R, hR⟩ : ∃ R, R = RefByt kind (bytStep zs ⟨p, err, place⟩) r A zs.length cap w := ⟨_, rfl⟩
  rw [← hR]
  have HR := Lib.hid hR
  have HB := Lib.hid hb
  clear hR hb
  have hrl := h.blk.lt
  obtain ⟨hk, hz, hx⟩ := itemW_facts w kind
  have h2 := h.grew hk
  have hA2 := hA.grew hk
  unfold itemW at hk hz hx h2 hA2
  have c2 := h2.blk.cell 2 _ rfl
  by_cases he : err = 0
  · obtain ⟨t1, t2⟩ := test_eq he
    subst he
    go_enter Try.func52, Try.ntmps52
    go_wp2_with fail
    refine (rrvar_any false zs r A zs.length cap ⟨p, 0, place⟩ _ h2 hA2 rfl hr HB.out hoff).mono ?_
    rintro e w3 (⟨u, m, hd, hu, hm1, hpm, rfl, hR3, hk3⟩ | ⟨k, hd, rfl, hR3, hk3⟩)
    · have hz3 := hz.keeps hk3 (fun e => by have : w.heap.size = r := e; omega)
      have hx3 := hx.keeps hk3 (fun e => by have : w.heap.size + 1 = r := e; omega)
      have hK3 := hk.of_none.trans hk3
      have hnd : numD (decF 0 0 (zs.drop p)) = .ok u m := by rw [← decS_false _ 0 0 (fun c hc => HB.out c (List.mem_of_mem_drop hc)) (by omega) (by simp)]; exact hd
      have hu63 : u < 9223372036854775808 := numD_lt hnd
      have hpm : p + m ≤ zs.length := hpm
      have d1 := hR3.blk.cell 1 _ rfl
      have e1 := hR3.blk.free 1
      have z0 := hz3.cell 0 _ rfl
      have z1 := hz3.cell 1 _ rfl
      have z2 := hz3.cell 2 _ rfl
      have y0 := hz3.free 0
      have y1 := hz3.free 1
      have y2 := hz3.free 2
      have x0 := hx3.cell 0 _ rfl
      have x1 := hx3.cell 1 _ rfl
      have x2 := hx3.cell 2 _ rfl
      have v1 := hx3.free 1
      have hm0 : ((m : Int) == 0) = false := by simp; omega
      have d0 := hR3.blk.cell 0 _ rfl
      have hwl : IntKind.u64.wrap ((zs.length : Int) - (p : Int) - (m : Int)) = (zs.length : Int) - (p : Int) - (m : Int) := by rw [wrap_u64]; omega
      by_cases hu2 : u ≤ zs.length - (p + m)
      · have hi1 : ¬ ((zs.length : Int) - (p : Int) - (m : Int) < (u : Int)) := by omega
        have HD := Lib.hid (show bytStep zs ⟨p, 0, place⟩ = ((zs.drop (p + m)).take u, ⟨p + (m + u), 0, place⟩) from by unfold bytStep; rw [if_pos rfl]; simp only; unfold bytD; rw [hnd]; simp only [if_pos hu2])
        clear hd hnd
        go_wp2_with fail
        go_quiet (fail)
        go_wp2_with fail
        have k34 : Keeps None w3 (w3.drewN nq) := (Keeps.refl None w3).drewN nq
        have hR5 := hR3.grew k34
        have hz5 := hz3.grew k34
        have hx5 := hx3.grew k34
        have hK5 := hK3.trans k34.of_none
        have hA5 : Nums .u8 (w3.drewN nq) A zs := hA.keeps0 hK5 hoff
        obtain ⟨w5, hw5⟩ : ∃ w5, w5 = w3.drewN nq := ⟨_, rfl⟩
        rw [← hw5] at k34 hR5 hz5 hx5 hK5 hA5 ⊢
        clear hw5
        obtain ⟨b, o, rfl, -⟩ := hA5 0 (by omega)
        obtain ⟨q, hq⟩ : ∃ q, q = p + m := ⟨_, rfl⟩
        rw [show (p : Int) + (m : Int) = (q : Int) by omega]
        rw [← hq] at HD hu2
        obtain ⟨bs, hbs⟩ : ∃ bs, bs = (zs.drop q).take u := ⟨_, rfl⟩
        rw [← hbs] at HD
        have HBL : Hid (bs.length = u) := Lib.hid (by rw [hbs, List.length_take, List.length_drop]; omega)
        have hN5 : Nums .u8 w5 (some ⟨b, o + q, Option.none⟩) bs := by rw [hbs]; exact (hA5.drop q).take u
        have x2' := hx5.cell 2 _ rfl
        have d0' := hR5.blk.cell 0 _ rfl
        have hq0 : (0 : Int) ≤ (q : Int) := by omega
        have hq1 : (q : Int) ≤ (q : Int) + (u : Int) := by omega
        have hq2 : (q : Int) + (u : Int) ≤ (cap : Int) := by omega
        have hwr : IntKind.i64.wrap ((q : Int) + (u : Int)) = (q : Int) + (u : Int) := by rw [IntKind.wrap_i64]; omega
        have hwu : IntKind.i64.wrap (u : Int) = (u : Int) := by rw [IntKind.wrap_i64]; omega
        have htn : ((q : Int) + (u : Int)).toNat - q = u := by omega
        have hqn : q ≤ ((q : Int) + (u : Int)).toNat := by omega
        have hqs : (0 : Int) ≤ (q : Int) + (u : Int) := by omega
        have HQ := Lib.hid hq
        obtain ⟨i0, hi, hz0, hz1, hz2'⟩ := info_parts Try.infoU8
        clear hq hbs d0 d1 e1 z0 z1 z2 y0 y1 y2 x0 x1 x2 v1 hwl hi1
        by_cases hcq : cap = q
        · have hqq : (q : Int) + (u : Int) ≤ (q : Int) := by omega
          have hN5 : Nums .u8 w5 (some ⟨b, o, Option.none⟩) bs := by
            have e0 : bs = [] := List.eq_nil_of_length_eq_zero (by have := HBL.out; omega)
            rw [e0]; exact Nums.nil _ _ _
          refine start_ (ds := [14]) (S := (fun w' => w'.cell? ⟨w.heap.size + 1, 2, Option.none⟩ = some (.slice Option.none 0 0) ∧ w'.cell? ⟨r, 0, Option.none⟩ = some (.slice (some ⟨b, o, Option.none⟩) zs.length cap))) #[false, false, false, false, false, false, false, false, false, false, false, false, false, false, false] (by kernel_rfl) rfl rfl ⟨x2', d0'⟩ (fun hS0 => ?_)
          refine pure_ (i := 0) (N := some 58) (v := .pointer (some ⟨w.heap.size + 1, 2, Option.none⟩)) #[true, false, false, false, false, false, false, false, false, false, false, false, false, false, false] rfl rfl (by kernel_rfl) (fun _ _ _ h => h) (Or.inl ⟨wanted_none rfl, fun w => by go_simp⟩) rfl ?_
          try simp only [Act.put, List.setIfInBounds_toArray, List.set_cons_zero, List.set_cons_succ]
          refine take_ (i := 1) (N := some 59) (v := .slice Option.none 0 0) #[true, true, false, false, false, false, false, false, false, false, false, false, false, false, false] rfl rfl (by kernel_rfl) (fun _ _ _ h => h) (Or.inl ⟨wanted_none rfl, by intro w' hSw; go_split_ands; go_simp⟩) hS0 rfl ?_
          try simp only [Act.put, List.setIfInBounds_toArray, List.set_cons_zero, List.set_cons_succ]
          refine pure_ (i := 2) (N := some 60) (v := .pointer (some ⟨r, 0, Option.none⟩)) #[true, true, true, false, false, false, false, false, false, false, false, false, false, false, false] rfl rfl (by kernel_rfl) (fun _ _ _ h => h) (Or.inl ⟨wanted_none rfl, fun w => by rfl⟩) rfl ?_
          try simp only [Act.put, List.setIfInBounds_toArray, List.set_cons_zero, List.set_cons_succ]
          refine pure_ (i := 3) (N := some 61) (v := .pointer (some ⟨r, 0, Option.none⟩)) #[true, true, true, true, false, false, false, false, false, false, false, false, false, false, false] rfl rfl (by kernel_rfl) (fun _ _ _ h => h) (Or.inl ⟨wanted_none rfl, fun w => by go_simp⟩) rfl ?_
          try simp only [Act.put, List.setIfInBounds_toArray, List.set_cons_zero, List.set_cons_succ]
          refine pure_ (i := 4) (N := some 62) (v := .pointer (some ⟨r, 0, Option.none⟩)) #[true, true, true, true, true, false, false, false, false, false, false, false, false, false, false] rfl rfl (by kernel_rfl) (fun _ _ _ h => h) (Or.inl ⟨wanted_none rfl, fun w => by go_simp⟩) rfl ?_
          try simp only [Act.put, List.setIfInBounds_toArray, List.set_cons_zero, List.set_cons_succ]
          refine take_ (i := 5) (N := some 63) (v := .slice (some ⟨b, o, Option.none⟩) zs.length cap) #[true, true, true, true, true, true, false, false, false, false, false, false, false, false, false] rfl rfl (by kernel_rfl) (fun _ _ _ h => h) (Or.inl ⟨wanted_none rfl, by intro w' hSw; go_split_ands; go_simp⟩) hS0 rfl ?_
          try simp only [Act.put, List.setIfInBounds_toArray, List.set_cons_zero, List.set_cons_succ]
          refine pure_ (i := 6) (N := some 64) (v := .int .i64 q) #[true, true, true, true, true, true, true, false, false, false, false, false, false, false, false] rfl rfl (by kernel_rfl) (fun _ _ _ h => h) (Or.inl ⟨wanted_none rfl, fun w => by rfl⟩) rfl ?_
          try simp only [Act.put, List.setIfInBounds_toArray, List.set_cons_zero, List.set_cons_succ]
          refine pure_ (i := 7) (N := some 65) (v := .int .i64 q) #[true, true, true, true, true, true, true, true, false, false, false, false, false, false, false] rfl rfl (by kernel_rfl) (fun _ _ _ h => h) (Or.inl ⟨wanted_none rfl, fun w => by rfl⟩) rfl ?_
          try simp only [Act.put, List.setIfInBounds_toArray, List.set_cons_zero, List.set_cons_succ]
          refine pure_ (i := 8) (N := some 66) (v := .int .u64 u) #[true, true, true, true, true, true, true, true, true, false, false, false, false, false, false] rfl rfl (by kernel_rfl) (fun _ _ _ h => h) (Or.inl ⟨wanted_none rfl, fun w => by rfl⟩) rfl ?_
          try simp only [Act.put, List.setIfInBounds_toArray, List.set_cons_zero, List.set_cons_succ]
          refine pure_ (i := 9) (N := some 67) (v := .int .i64 u) #[true, true, true, true, true, true, true, true, true, true, false, false, false, false, false] rfl rfl (by kernel_rfl) (fun _ _ _ h => h) (Or.inl ⟨wanted_none rfl, fun w => by go_simp⟩) rfl ?_
          try simp only [Act.put, List.setIfInBounds_toArray, List.set_cons_zero, List.set_cons_succ]
          refine pure_ (i := 10) (N := some 68) (v := .int .i64 ((q : Int) + (u : Int))) #[true, true, true, true, true, true, true, true, true, true, true, false, false, false, false] rfl rfl (by kernel_rfl) (fun _ _ _ h => h) (Or.inl ⟨wanted_none rfl, fun w => by go_simp⟩) rfl ?_
          try simp only [Act.put, List.setIfInBounds_toArray, List.set_cons_zero, List.set_cons_succ]
          refine pure_ (i := 11) (N := some 69) (v := .slice (some ⟨b, o, Option.none⟩) u (cap - q)) #[true, true, true, true, true, true, true, true, true, true, true, true, false, false, false] rfl rfl (by kernel_rfl) (fun _ _ _ h => h) (Or.inl ⟨wanted_none rfl, fun w => by go_simp⟩) rfl ?_
          try simp only [Act.put, List.setIfInBounds_toArray, List.set_cons_zero, List.set_cons_succ]
          refine one_ (i := 12) (oi := ({ dst := some 70, op := Op.call { callee := Callee.builtin Builtin.append, args := #[Operand.tmp 59, Operand.tmp 69], argTypes := #[23, 23] }, type := 23, pos := "ref.go:132", after := #[{ on := 1, ground := Ground.data }, { on := 11, ground := Ground.data }], guard := Option.none } : Oper)) (N := some 70) #[true, true, true, true, true, true, true, true, true, true, true, true, true, false, false] rfl rfl (by kernel_rfl) (by decide) ?_
          intro KK hKK
          refine step_append_row _ (wanted_none rfl) rfl (Operand.tmp 59) (Operand.tmp 69) 23 rfl w.heap.size 5 i0 (.int .u8 0) 1 1 Try.underlying23 hi hz0 hz1 hz2' rfl (by decide) (.slice Option.none 0 0) 0 [] rfl (World.ownsRow_nil _ _ _ _) (some ⟨b, o, Option.none⟩) u (cap - q) (bs.map (Value.int .u8)) rfl (by rw [List.length_map, HBL.out, Nat.mul_one]) (fun e => by cases e) (fun h0 => ((hN5.grew (Keeps.refl None _).drew).src h0)) (ints_oneCell _ _) (by unfold maxLen; omega) (by omega) (by have := hK5.size; exact this) ?_
          intro v' w6 hown hk6' hloc
          have hrow : Row .u8 5 w6 w.heap.size v' bs := Row.of_append (zs := []) rfl HBL.out hown
          have hk6 : Keeps None w5 w6 := (Keeps.refl None w5).drew.andThen hk6' (fun i hi e => by simp [OwnB, Value.ownBlock] at e)
          obtain ⟨A2, c2, ev2⟩ := hrow.slice
          rw [HBL.out] at ev2
          subst ev2
          have hx6 := hx5.grew hk6
          have x26 := hx6.cell 2 _ rfl
          have v26 := hx6.free 2
          refine hKK.out _ _ (⟨hk6.cell x2' id, hk6.cell d0' id⟩) (fun hA1 => ?_)
          try simp only [Act.put, List.setIfInBounds_toArray, List.set_cons_zero, List.set_cons_succ]
          refine pure_ (i := 13) (N := some 71) (v := .pointer (some ⟨w.heap.size + 1, 2, Option.none⟩)) #[true, true, true, true, true, true, true, true, true, true, true, true, true, true, false] rfl rfl (by kernel_rfl) (fun _ _ _ h => h) (Or.inl ⟨wanted_none rfl, fun w => by go_simp⟩) rfl ?_
          try simp only [Act.put, List.setIfInBounds_toArray, List.set_cons_zero, List.set_cons_succ]
          refine last_ (i := 14) (oi := ({ dst := Option.none, op := Op.store 23 (Operand.tmp 71) (Operand.tmp 70), type := 0, pos := "ref.go:132", after := #[{ on := 13, ground := Ground.data }, { on := 12, ground := Ground.data }, { on := 12, ground := Ground.chain }, { on := 0, ground := Ground.phase }, { on := 1, ground := Ground.phase }, { on := 2, ground := Ground.phase }, { on := 3, ground := Ground.phase }, { on := 4, ground := Ground.phase }, { on := 5, ground := Ground.phase }, { on := 6, ground := Ground.phase }, { on := 7, ground := Ground.phase }, { on := 8, ground := Ground.phase }, { on := 9, ground := Ground.phase }, { on := 10, ground := Ground.phase }, { on := 11, ground := Ground.phase }, { on := 12, ground := Ground.phase }], guard := Option.none } : Oper)) (N := Option.none) #[true, true, true, true, true, true, true, true, true, true, true, true, true, true, true] rfl rfl (by kernel_rfl) (by decide) ?_
          intro KK hKK
          refine skip_ (wanted_none rfl) rfl (w1 := w6.setCell ⟨w.heap.size + 1, 2, Option.none⟩ (.slice A2 u c2)) (by go_simp) (hKK.out _ _ ?_)
          try simp only [Act.put, List.setIfInBounds_toArray, List.set_cons_zero, List.set_cons_succ]
          refine done_ (by kernel_rfl) ?_
          have hno : ∀ b', (Value.slice A2 u c2).ownBlock = some b' → w5.heap.size ≤ b' := fun b' e' => by
            rcases hloc with l | l
            · rw [l] at e'; simp [Value.ownBlock] at e'
            · rw [l] at e'; cases e'; exact Nat.le_refl _
          have hsx := hx5.lt
          have hk67 : Keeps (One (w.heap.size + 1)) w6 (w6.setCell ⟨w.heap.size + 1, 2, Option.none⟩ (.slice A2 u c2)) := (Keeps.refl _ _).setCell _ _ (fun _ => rfl)
          have hx7 : Blk (w6.setCell ⟨w.heap.size + 1, 2, Option.none⟩ (.slice A2 u c2)) (w.heap.size + 1) 32 [.int .i64 kind, .int .i64 0, .slice A2 u c2] := hx6.set 2 _
          have hz7 := (hz5.grew hk6).keeps hk67 (fun e => by have : w.heap.size = w.heap.size + 1 := e; omega)
          have hR7 := (hR5.grew hk6).keeps hk67 (fun e => by have : r = w.heap.size + 1 := e; omega)
          have hrow7 := hrow.keeps hk67 (fun b' e' f => by have : b' = w.heap.size + 1 := f; have := hno b' e'; omega)
          have hK7 : Keeps (One r) w (w6.setCell ⟨w.heap.size + 1, 2, Option.none⟩ (.slice A2 u c2)) := (hK5.trans hk6.of_none).setCell _ _ (fun h => by exfalso; simp only at h; omega)
          obtain ⟨w7, hw7⟩ : ∃ w7, w7 = w6.setCell ⟨w.heap.size + 1, 2, Option.none⟩ (.slice A2 u c2) := ⟨_, rfl⟩
          rw [← hw7] at hx7 hz7 hR7 hrow7 hK7 ⊢
          clear hw7 hk67
          have d1 := hR7.blk.cell 1 _ rfl
          have e1 := hR7.blk.free 1
          have z0 := hz7.cell 0 _ rfl
          have z1 := hz7.cell 1 _ rfl
          have z2 := hz7.cell 2 _ rfl
          have y0 := hz7.free 0
          have y1 := hz7.free 1
          have y2 := hz7.free 2
          have x0 := hx7.cell 0 _ rfl
          have x1 := hx7.cell 1 _ rfl
          have x2 := hx7.cell 2 _ rfl
          go_wp2_with fail
          refine bodyPost_ret (results_cell_row rfl _ _ w.heap.size 32 #[.int .i64 kind, .int .i64 0, .slice A2 u c2] (0, 0) _ rfl ((((hz7.other ⟨r, 1, Option.none⟩ (.int .i64 ((p : Int) + ((m : Int) + (u : Int)))) (by simp; omega)).set 0 (.int .i64 kind)).set 1 (.int .i64 0)).set 2 (.slice A2 u c2)).raw Try.underlying32 rfl Try.sizeIt) rfl ?_
          rw [HR.out, HD.out]
          have q7 : RR (w7.setCell ⟨r, 1, Option.none⟩ (.int .i64 ((p : Int) + ((m : Int) + (u : Int))))) r (some ⟨b, o, Option.none⟩) zs.length cap ⟨p + (m + u), 0, place⟩ := ⟨hR7.blk.set 1 _, by have := HQ.out; simp only; omega⟩
          have kfin : Keeps (Two2 r w.heap.size) w7 ((((w7.setCell ⟨r, 1, Option.none⟩ (.int .i64 ((p : Int) + ((m : Int) + (u : Int))))).setCell ⟨w.heap.size, 0, Option.none⟩ (.int .i64 kind)).setCell ⟨w.heap.size, 1, Option.none⟩ (.int .i64 0)).setCell ⟨w.heap.size, 2, Option.none⟩ (.slice A2 u c2)) :=
            ((((Keeps.refl _ _).setCell ⟨r, 1, Option.none⟩ _ (fun _ => .inl rfl)).setCell ⟨w.heap.size, 0, Option.none⟩ _ (fun _ => .inr rfl)).setCell ⟨w.heap.size, 1, Option.none⟩ _ (fun _ => .inr rfl)).setCell ⟨w.heap.size, 2, Option.none⟩ _ (fun _ => .inr rfl)
          refine ⟨_, rfl, hrow7.keeps kfin (fun b' e' f => by have := hno b' e'; rcases f with f | f <;> omega), ?_, ?_⟩
          · exact ((q7.setRes (by simp; omega)).setRes (by simp; omega)).setRes (by simp; omega)
          · exact hK7.andThen kfin (fun i hi' e => by rcases e with e | e; (exact e); omega)
        · skip
          refine start_ (ds := [14]) (S := (fun w' => w'.cell? ⟨w.heap.size + 1, 2, Option.none⟩ = some (.slice Option.none 0 0) ∧ w'.cell? ⟨r, 0, Option.none⟩ = some (.slice (some ⟨b, o, Option.none⟩) zs.length cap))) #[false, false, false, false, false, false, false, false, false, false, false, false, false, false, false] (by kernel_rfl) rfl rfl ⟨x2', d0'⟩ (fun hS0 => ?_)
          refine pure_ (i := 0) (N := some 58) (v := .pointer (some ⟨w.heap.size + 1, 2, Option.none⟩)) #[true, false, false, false, false, false, false, false, false, false, false, false, false, false, false] rfl rfl (by kernel_rfl) (fun _ _ _ h => h) (Or.inl ⟨wanted_none rfl, fun w => by go_simp⟩) rfl ?_
          try simp only [Act.put, List.setIfInBounds_toArray, List.set_cons_zero, List.set_cons_succ]
          refine take_ (i := 1) (N := some 59) (v := .slice Option.none 0 0) #[true, true, false, false, false, false, false, false, false, false, false, false, false, false, false] rfl rfl (by kernel_rfl) (fun _ _ _ h => h) (Or.inl ⟨wanted_none rfl, by intro w' hSw; go_split_ands; go_simp⟩) hS0 rfl ?_
          try simp only [Act.put, List.setIfInBounds_toArray, List.set_cons_zero, List.set_cons_succ]
          refine pure_ (i := 2) (N := some 60) (v := .pointer (some ⟨r, 0, Option.none⟩)) #[true, true, true, false, false, false, false, false, false, false, false, false, false, false, false] rfl rfl (by kernel_rfl) (fun _ _ _ h => h) (Or.inl ⟨wanted_none rfl, fun w => by rfl⟩) rfl ?_
          try simp only [Act.put, List.setIfInBounds_toArray, List.set_cons_zero, List.set_cons_succ]
          refine pure_ (i := 3) (N := some 61) (v := .pointer (some ⟨r, 0, Option.none⟩)) #[true, true, true, true, false, false, false, false, false, false, false, false, false, false, false] rfl rfl (by kernel_rfl) (fun _ _ _ h => h) (Or.inl ⟨wanted_none rfl, fun w => by go_simp⟩) rfl ?_
          try simp only [Act.put, List.setIfInBounds_toArray, List.set_cons_zero, List.set_cons_succ]
          refine pure_ (i := 4) (N := some 62) (v := .pointer (some ⟨r, 0, Option.none⟩)) #[true, true, true, true, true, false, false, false, false, false, false, false, false, false, false] rfl rfl (by kernel_rfl) (fun _ _ _ h => h) (Or.inl ⟨wanted_none rfl, fun w => by go_simp⟩) rfl ?_
          try simp only [Act.put, List.setIfInBounds_toArray, List.set_cons_zero, List.set_cons_succ]
          refine take_ (i := 5) (N := some 63) (v := .slice (some ⟨b, o, Option.none⟩) zs.length cap) #[true, true, true, true, true, true, false, false, false, false, false, false, false, false, false] rfl rfl (by kernel_rfl) (fun _ _ _ h => h) (Or.inl ⟨wanted_none rfl, by intro w' hSw; go_split_ands; go_simp⟩) hS0 rfl ?_
          try simp only [Act.put, List.setIfInBounds_toArray, List.set_cons_zero, List.set_cons_succ]
          refine pure_ (i := 6) (N := some 64) (v := .int .i64 q) #[true, true, true, true, true, true, true, false, false, false, false, false, false, false, false] rfl rfl (by kernel_rfl) (fun _ _ _ h => h) (Or.inl ⟨wanted_none rfl, fun w => by rfl⟩) rfl ?_
          try simp only [Act.put, List.setIfInBounds_toArray, List.set_cons_zero, List.set_cons_succ]
          refine pure_ (i := 7) (N := some 65) (v := .int .i64 q) #[true, true, true, true, true, true, true, true, false, false, false, false, false, false, false] rfl rfl (by kernel_rfl) (fun _ _ _ h => h) (Or.inl ⟨wanted_none rfl, fun w => by rfl⟩) rfl ?_
          try simp only [Act.put, List.setIfInBounds_toArray, List.set_cons_zero, List.set_cons_succ]
          refine pure_ (i := 8) (N := some 66) (v := .int .u64 u) #[true, true, true, true, true, true, true, true, true, false, false, false, false, false, false] rfl rfl (by kernel_rfl) (fun _ _ _ h => h) (Or.inl ⟨wanted_none rfl, fun w => by rfl⟩) rfl ?_
          try simp only [Act.put, List.setIfInBounds_toArray, List.set_cons_zero, List.set_cons_succ]
          refine pure_ (i := 9) (N := some 67) (v := .int .i64 u) #[true, true, true, true, true, true, true, true, true, true, false, false, false, false, false] rfl rfl (by kernel_rfl) (fun _ _ _ h => h) (Or.inl ⟨wanted_none rfl, fun w => by go_simp⟩) rfl ?_
          try simp only [Act.put, List.setIfInBounds_toArray, List.set_cons_zero, List.set_cons_succ]
          refine pure_ (i := 10) (N := some 68) (v := .int .i64 ((q : Int) + (u : Int))) #[true, true, true, true, true, true, true, true, true, true, true, false, false, false, false] rfl rfl (by kernel_rfl) (fun _ _ _ h => h) (Or.inl ⟨wanted_none rfl, fun w => by go_simp⟩) rfl ?_
          try simp only [Act.put, List.setIfInBounds_toArray, List.set_cons_zero, List.set_cons_succ]
          refine pure_ (i := 11) (N := some 69) (v := .slice (some ⟨b, o + q, Option.none⟩) u (cap - q)) #[true, true, true, true, true, true, true, true, true, true, true, true, false, false, false] rfl rfl (by kernel_rfl) (fun _ _ _ h => h) (Or.inl ⟨wanted_none rfl, fun w => by go_simp⟩) rfl ?_
          try simp only [Act.put, List.setIfInBounds_toArray, List.set_cons_zero, List.set_cons_succ]
          refine one_ (i := 12) (oi := ({ dst := some 70, op := Op.call { callee := Callee.builtin Builtin.append, args := #[Operand.tmp 59, Operand.tmp 69], argTypes := #[23, 23] }, type := 23, pos := "ref.go:132", after := #[{ on := 1, ground := Ground.data }, { on := 11, ground := Ground.data }], guard := Option.none } : Oper)) (N := some 70) #[true, true, true, true, true, true, true, true, true, true, true, true, true, false, false] rfl rfl (by kernel_rfl) (by decide) ?_
          intro KK hKK
          refine step_append_row _ (wanted_none rfl) rfl (Operand.tmp 59) (Operand.tmp 69) 23 rfl w.heap.size 5 i0 (.int .u8 0) 1 1 Try.underlying23 hi hz0 hz1 hz2' rfl (by decide) (.slice Option.none 0 0) 0 [] rfl (World.ownsRow_nil _ _ _ _) (some ⟨b, o + q, Option.none⟩) u (cap - q) (bs.map (Value.int .u8)) rfl (by rw [List.length_map, HBL.out, Nat.mul_one]) (fun e => by cases e) (fun h0 => ((hN5.grew (Keeps.refl None _).drew).src h0)) (ints_oneCell _ _) (by unfold maxLen; omega) (by omega) (by have := hK5.size; exact this) ?_
          intro v' w6 hown hk6' hloc
          have hrow : Row .u8 5 w6 w.heap.size v' bs := Row.of_append (zs := []) rfl HBL.out hown
          have hk6 : Keeps None w5 w6 := (Keeps.refl None w5).drew.andThen hk6' (fun i hi e => by simp [OwnB, Value.ownBlock] at e)
          obtain ⟨A2, c2, ev2⟩ := hrow.slice
          rw [HBL.out] at ev2
          subst ev2
          have hx6 := hx5.grew hk6
          have x26 := hx6.cell 2 _ rfl
          have v26 := hx6.free 2
          refine hKK.out _ _ (⟨hk6.cell x2' id, hk6.cell d0' id⟩) (fun hA1 => ?_)
          try simp only [Act.put, List.setIfInBounds_toArray, List.set_cons_zero, List.set_cons_succ]
          refine pure_ (i := 13) (N := some 71) (v := .pointer (some ⟨w.heap.size + 1, 2, Option.none⟩)) #[true, true, true, true, true, true, true, true, true, true, true, true, true, true, false] rfl rfl (by kernel_rfl) (fun _ _ _ h => h) (Or.inl ⟨wanted_none rfl, fun w => by go_simp⟩) rfl ?_
          try simp only [Act.put, List.setIfInBounds_toArray, List.set_cons_zero, List.set_cons_succ]
          refine last_ (i := 14) (oi := ({ dst := Option.none, op := Op.store 23 (Operand.tmp 71) (Operand.tmp 70), type := 0, pos := "ref.go:132", after := #[{ on := 13, ground := Ground.data }, { on := 12, ground := Ground.data }, { on := 12, ground := Ground.chain }, { on := 0, ground := Ground.phase }, { on := 1, ground := Ground.phase }, { on := 2, ground := Ground.phase }, { on := 3, ground := Ground.phase }, { on := 4, ground := Ground.phase }, { on := 5, ground := Ground.phase }, { on := 6, ground := Ground.phase }, { on := 7, ground := Ground.phase }, { on := 8, ground := Ground.phase }, { on := 9, ground := Ground.phase }, { on := 10, ground := Ground.phase }, { on := 11, ground := Ground.phase }, { on := 12, ground := Ground.phase }], guard := Option.none } : Oper)) (N := Option.none) #[true, true, true, true, true, true, true, true, true, true, true, true, true, true, true] rfl rfl (by kernel_rfl) (by decide) ?_
          intro KK hKK
          refine skip_ (wanted_none rfl) rfl (w1 := w6.setCell ⟨w.heap.size + 1, 2, Option.none⟩ (.slice A2 u c2)) (by go_simp) (hKK.out _ _ ?_)
          try simp only [Act.put, List.setIfInBounds_toArray, List.set_cons_zero, List.set_cons_succ]
          refine done_ (by kernel_rfl) ?_
          have hno : ∀ b', (Value.slice A2 u c2).ownBlock = some b' → w5.heap.size ≤ b' := fun b' e' => by
            rcases hloc with l | l
            · rw [l] at e'; simp [Value.ownBlock] at e'
            · rw [l] at e'; cases e'; exact Nat.le_refl _
          have hsx := hx5.lt
          have hk67 : Keeps (One (w.heap.size + 1)) w6 (w6.setCell ⟨w.heap.size + 1, 2, Option.none⟩ (.slice A2 u c2)) := (Keeps.refl _ _).setCell _ _ (fun _ => rfl)
          have hx7 : Blk (w6.setCell ⟨w.heap.size + 1, 2, Option.none⟩ (.slice A2 u c2)) (w.heap.size + 1) 32 [.int .i64 kind, .int .i64 0, .slice A2 u c2] := hx6.set 2 _
          have hz7 := (hz5.grew hk6).keeps hk67 (fun e => by have : w.heap.size = w.heap.size + 1 := e; omega)
          have hR7 := (hR5.grew hk6).keeps hk67 (fun e => by have : r = w.heap.size + 1 := e; omega)
          have hrow7 := hrow.keeps hk67 (fun b' e' f => by have : b' = w.heap.size + 1 := f; have := hno b' e'; omega)
          have hK7 : Keeps (One r) w (w6.setCell ⟨w.heap.size + 1, 2, Option.none⟩ (.slice A2 u c2)) := (hK5.trans hk6.of_none).setCell _ _ (fun h => by exfalso; simp only at h; omega)
          obtain ⟨w7, hw7⟩ : ∃ w7, w7 = w6.setCell ⟨w.heap.size + 1, 2, Option.none⟩ (.slice A2 u c2) := ⟨_, rfl⟩
          rw [← hw7] at hx7 hz7 hR7 hrow7 hK7 ⊢
          clear hw7 hk67
          have d1 := hR7.blk.cell 1 _ rfl
          have e1 := hR7.blk.free 1
          have z0 := hz7.cell 0 _ rfl
          have z1 := hz7.cell 1 _ rfl
          have z2 := hz7.cell 2 _ rfl
          have y0 := hz7.free 0
          have y1 := hz7.free 1
          have y2 := hz7.free 2
          have x0 := hx7.cell 0 _ rfl
          have x1 := hx7.cell 1 _ rfl
          have x2 := hx7.cell 2 _ rfl
          go_wp2_with fail
          refine bodyPost_ret (results_cell_row rfl _ _ w.heap.size 32 #[.int .i64 kind, .int .i64 0, .slice A2 u c2] (0, 0) _ rfl ((((hz7.other ⟨r, 1, Option.none⟩ (.int .i64 ((p : Int) + ((m : Int) + (u : Int)))) (by simp; omega)).set 0 (.int .i64 kind)).set 1 (.int .i64 0)).set 2 (.slice A2 u c2)).raw Try.underlying32 rfl Try.sizeIt) rfl ?_
          rw [HR.out, HD.out]
          have q7 : RR (w7.setCell ⟨r, 1, Option.none⟩ (.int .i64 ((p : Int) + ((m : Int) + (u : Int))))) r (some ⟨b, o, Option.none⟩) zs.length cap ⟨p + (m + u), 0, place⟩ := ⟨hR7.blk.set 1 _, by have := HQ.out; simp only; omega⟩
          have kfin : Keeps (Two2 r w.heap.size) w7 ((((w7.setCell ⟨r, 1, Option.none⟩ (.int .i64 ((p : Int) + ((m : Int) + (u : Int))))).setCell ⟨w.heap.size, 0, Option.none⟩ (.int .i64 kind)).setCell ⟨w.heap.size, 1, Option.none⟩ (.int .i64 0)).setCell ⟨w.heap.size, 2, Option.none⟩ (.slice A2 u c2)) :=
            ((((Keeps.refl _ _).setCell ⟨r, 1, Option.none⟩ _ (fun _ => .inl rfl)).setCell ⟨w.heap.size, 0, Option.none⟩ _ (fun _ => .inr rfl)).setCell ⟨w.heap.size, 1, Option.none⟩ _ (fun _ => .inr rfl)).setCell ⟨w.heap.size, 2, Option.none⟩ _ (fun _ => .inr rfl)
          refine ⟨_, rfl, hrow7.keeps kfin (fun b' e' f => by have := hno b' e'; rcases f with f | f <;> omega), ?_, ?_⟩
          · exact ((q7.setRes (by simp; omega)).setRes (by simp; omega)).setRes (by simp; omega)
          · exact hK7.andThen kfin (fun i hi' e => by rcases e with e | e; (exact e); omega)
      · have hi1 : (zs.length : Int) - (p : Int) - (m : Int) < (u : Int) := by omega
        have HD := Lib.hid (show bytStep zs ⟨p, 0, place⟩ = ([], ⟨p, 10, p⟩) from by unfold bytStep; rw [if_pos rfl]; simp only; unfold bytD; rw [hnd]; simp only [if_neg hu2])
        clear hd hnd
        go_wp2_with fail
        go_quiet (fail)
        have k34 : Keeps None w3 (w3.drewN nq) := (Keeps.refl None w3).drewN nq
        have hR4 := hR3.grew k34
        have hz4 := hz3.grew k34
        have hx4 := hx3.grew k34
        have hK4 := hK3.trans k34.of_none
        obtain ⟨w4, hw4⟩ : ∃ w4, w4 = w3.drewN nq := ⟨_, rfl⟩
        rw [← hw4] at k34 hR4 hz4 hx4 hK4 ⊢
        clear hw4
        have d1 := hR4.blk.cell 1 _ rfl
        go_wp2_with fail
        refine (fail_any r A zs.length cap ⟨p, 0, place⟩ 10 p w4 hR4).mono ?_
        rintro e w5 ⟨rfl, hR5, hk5⟩
        have hz5 := hz4.keeps hk5 (fun e => by have : w.heap.size = r := e; omega)
        have hx5 := hx4.keeps hk5 (fun e => by have : w.heap.size + 1 = r := e; omega)
        have hK5 := hK4.trans hk5
        have z0 := hz5.cell 0 _ rfl
        have z1 := hz5.cell 1 _ rfl
        have z2 := hz5.cell 2 _ rfl
        have y0 := hz5.free 0
        have y1 := hz5.free 1
        have y2 := hz5.free 2
        have x0 := hx5.cell 0 _ rfl
        have x1 := hx5.cell 1 _ rfl
        have x2 := hx5.cell 2 _ rfl
        go_wp2_with fail
        refine bodyPost_ret (results_cell_row rfl _ _ w.heap.size 32 #[.int .i64 kind, .int .i64 0, .slice Option.none 0 0] (0, 0) _ rfl (((hz5.set 0 (.int .i64 kind)).set 1 (.int .i64 0)).set 2 (.slice Option.none 0 0)).raw Try.underlying32 rfl Try.sizeIt) rfl ?_
        rw [HR.out, HD.out]
        refine ⟨_, rfl, Row.nil _ _ _ _, ?_, ?_⟩
        · exact ((hR5.setRes (by simp; omega)).setRes (by simp; omega)).setRes (by simp; omega)
        · exact ((hK5.setCell _ _ (by simp)).setCell _ _ (by simp)).setCell _ _ (by simp)
    · have hz3 := hz.keeps hk3 (fun e => by have : w.heap.size = r := e; omega)
      have hx3 := hx.keeps hk3 (fun e => by have : w.heap.size + 1 = r := e; omega)
      have hK3 := hk.of_none.trans hk3
      have z0 := hz3.cell 0 _ rfl
      have z1 := hz3.cell 1 _ rfl
      have z2 := hz3.cell 2 _ rfl
      have y0 := hz3.free 0
      have y1 := hz3.free 1
      have y2 := hz3.free 2
      have x0 := hx3.cell 0 _ rfl
      have x1 := hx3.cell 1 _ rfl
      have x2 := hx3.cell 2 _ rfl
      have HD := Lib.hid (show bytStep zs ⟨p, 0, place⟩ = ([], ⟨p, k, p⟩) from by unfold bytStep; rw [if_pos rfl]; simp only; unfold bytD; rw [← decS_false _ 0 0 (fun c hc => HB.out c (List.mem_of_mem_drop hc)) (by omega) (by simp), hd])
      clear hd
      go_wp2_with fail
      refine bodyPost_ret (results_cell_row rfl _ _ w.heap.size 32 #[.int .i64 kind, .int .i64 0, .slice Option.none 0 0] (0, 0) _ rfl (((hz3.set 0 (.int .i64 kind)).set 1 (.int .i64 0)).set 2 (.slice Option.none 0 0)).raw Try.underlying32 rfl Try.sizeIt) rfl ?_
      rw [HR.out, HD.out]
      refine ⟨_, rfl, Row.nil _ _ _ _, ?_, ?_⟩
      · exact ((hR3.setRes (by simp; omega)).setRes (by simp; omega)).setRes (by simp; omega)
      · exact ((hK3.setCell _ _ (by simp)).setCell _ _ (by simp)).setCell _ _ (by simp)
  · obtain ⟨t1, t2⟩ := test_ne he
    have z0 := hz.cell 0 _ rfl
    have z1 := hz.cell 1 _ rfl
    have z2 := hz.cell 2 _ rfl
    have y0 := hz.free 0
    have y1 := hz.free 1
    have y2 := hz.free 2
    have x0 := hx.cell 0 _ rfl
    have x1 := hx.cell 1 _ rfl
    have x2 := hx.cell 2 _ rfl
    have HD := Lib.hid (show bytStep zs ⟨p, err, place⟩ = ([], ⟨p, err, place⟩) from by unfold bytStep; rw [if_neg he])
    clear he
    go_enter Try.func52, Try.ntmps52
    go_wp2_with fail
    refine bodyPost_ret (results_cell_row rfl _ _ w.heap.size 32 #[.int .i64 kind, .int .i64 0, .slice Option.none 0 0] (0, 0) _ rfl ((Blk.new w 32 [.int .i64 kind, .int .i64 0, .slice Option.none 0 0]).alloc _).raw Try.underlying32 rfl Try.sizeIt) rfl ?_
    rw [HR.out, HD.out]
    exact ⟨_, rfl, Row.nil _ _ _ _, h.grew (((Keeps.refl _ _).alloc _).alloc _), ((Keeps.refl _ _).alloc _).alloc _⟩
end Go.Proofs.Ytnhhmkgcgogddaa
