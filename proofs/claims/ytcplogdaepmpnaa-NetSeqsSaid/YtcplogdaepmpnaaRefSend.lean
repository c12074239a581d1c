/- cairnref16.Send. Regions printed by wip/region3.py (conf/c_rsend1.py, c_rsend11.py). -/
import Derived.Test.YtcplogdaepmpnaaRefNet
namespace Go.Proofs.Ytcplogdaepmpnaa
open Go.RowKit Go.Maps Go.ChangeMaps Go.WideElems Go.Proofs.YtcplogdaepmpnaaW.PrintLast

theorem infoAdR : (Try.prog.info? 27).map (fun i => (i.zero, i.size, i.bytes)) = some (some (.agg #[.bool false, .int .i64 0]), 2, 16) := by kernel_rfl

def RSendEnd (r base : Nat) (v u : Value) (L : Way) (S : List Ad) (p : Pk) (zs : List Int) (w : World) (e : Ending) (w' : World) : Prop :=
  ∃ u', NewL u u' w ∧ ((64 ≤ pairsF L p.pair ∧ e = .returned (.tuple #[.int .i64 ((countF S p.fr : Int) + 1), .bool false]) ∧ Rn w' r base v u' L (S ++ [p.fr]) ∧ Keeps (MineR r v u) w w') ∨
  (pairsF L p.pair < 64 ∧ e = .returned (.tuple #[.int .i64 ((countF S p.fr : Int) + 1), .bool true]) ∧ ∃ v', Rn w' r base v' u' (L ++ [({p with ct := (countF S p.fr : Int) + 1}, zs)]) (S ++ [p.fr]) ∧ NewL v v' w ∧ Keeps (MineR r v u) w w'))

set_option maxRecDepth 100000 in
set_option maxHeartbeats 4000000 in
theorem rsend_any {r base : Nat} {v u : Value} {L : Way} {S : List Ad} (p : Pk) (zs : List Int) (Ax : Option Addr) (cd : Nat) (w : World) (hR : Rn w r base v u L S) (hp : p.dv = .slice Ax zs.length cd) (hn : L.length ≤ 1099511627776) (hs : S.length ≤ 1099511627776) :
    Calls Try.prog 46 #[.pointer (some ⟨r, 0, Option.none⟩), p.val] w (RSendEnd r base v u L S p zs w) := by
  obtain ⟨i0, hi, hz0, hz1, hz2⟩ := info_parts infoPkAll
  obtain ⟨iA, hiA, hzA0, hzA1, hzA2⟩ := info_parts infoAdR
  obtain ⟨⟨f1, f2⟩, ct, ⟨t1, t2⟩, dv⟩ := p
  simp only at hp
  subst hp
  obtain ⟨Av, cv, rfl⟩ := owns_slice hR.row
  obtain ⟨Au, cu, rfl⟩ := owns_slice hR.sent
  have hb := Blk.new w 33 [.bool f1, .int .i64 f2, .int .i64 ct, .bool t1, .int .i64 t2, .slice Ax zs.length cd]
  have k0 := (Keeps.refl None w).alloc (.cells #[.bool f1, .int .i64 f2, .int .i64 ct, .bool t1, .int .i64 t2, .slice Ax zs.length cd] 33)
  have hR0 := hR.grew k0
  have hbw : w.heap.size < (w.alloc (.cells #[.bool f1, .int .i64 f2, .int .i64 ct, .bool t1, .int .i64 t2, .slice Ax zs.length cd] 33)).heap.size := hb.lt
  simp only [Pk.val]
  go_enter Try.func46, Try.ntmps46
  go_wp2_with fail
  obtain ⟨w1, ew1⟩ : ∃ w1, w1 = (w.alloc (.cells #[.bool f1, .int .i64 f2, .int .i64 ct, .bool t1, .int .i64 t2, .slice Ax zs.length cd] 33)) := ⟨_, rfl⟩
  rw [← ew1] at hR0 k0 hb hbw ⊢
  have hR1 := hR0
  have hB1 := hb
  clear hR0 hb ew1
  have hrl := hR1.blk.lt
  have hru : ¬ OwnB (.slice Au S.length cu) r := fun e => by
    obtain ⟨cur, hc⟩ := owns_obj hR1.sent e
    rw [hR1.blk.raw] at hc
    cases hc
  have hbu : ¬ OwnB (.slice Au S.length cu) w.heap.size := fun e => by have := hR.mine_lt _ (.inr (.inr e)); omega
  refine start_ (ds := [11]) (S := (fun w' => Keeps (OwnB (.slice Au S.length cu)) w1 w')) #[false, false, false, false, false, false, false, false, false, false, false, false] (by kernel_rfl) rfl rfl ((Keeps.refl _ _).drew) (fun hS0 => ?_)
  refine pure_ (i := 0) (N := some 8) (v := .pointer (some ⟨r, 0, Option.none⟩)) #[true, false, false, false, false, false, false, false, false, false, false, false] rfl rfl (by kernel_rfl) (fun _ _ _ h => h) (Or.inl ⟨wanted_none rfl, fun w => by rfl⟩) rfl ?_
  try simp only [Act.put, List.setIfInBounds_toArray, List.set_cons_zero, List.set_cons_succ]
  refine pure_ (i := 1) (N := some 9) (v := .pointer (some ⟨r, 0, Option.none⟩)) #[true, true, false, false, false, false, false, false, false, false, false, false] rfl rfl (by kernel_rfl) (fun _ _ _ h => h) (Or.inl ⟨wanted_none rfl, fun w => by rfl⟩) rfl ?_
  try simp only [Act.put, List.setIfInBounds_toArray, List.set_cons_zero, List.set_cons_succ]
  refine pure_ (i := 2) (N := some 10) (v := .pointer (some ⟨r, 0, Option.none⟩)) #[true, true, true, false, false, false, false, false, false, false, false, false] rfl rfl (by kernel_rfl) (fun _ _ _ h => h) (Or.inl ⟨wanted_none rfl, fun w => by go_simp⟩) rfl ?_
  try simp only [Act.put, List.setIfInBounds_toArray, List.set_cons_zero, List.set_cons_succ]
  refine pure_ (i := 3) (N := some 11) (v := .pointer (some ⟨r, 1, Option.none⟩)) #[true, true, true, true, false, false, false, false, false, false, false, false] rfl rfl (by kernel_rfl) (fun _ _ _ h => h) (Or.inl ⟨wanted_none rfl, fun w => by go_simp⟩) rfl ?_
  try simp only [Act.put, List.setIfInBounds_toArray, List.set_cons_zero, List.set_cons_succ]
  refine take_ (i := 4) (N := some 12) (v := .slice Au S.length cu) #[true, true, true, true, true, false, false, false, false, false, false, false] rfl rfl (by kernel_rfl) (fun _ _ _ h => h) (Or.inl ⟨wanted_none rfl, by intro w' hSw; have q := (hR1.blk.keeps hSw hru).cell 1 _ rfl; go_simp⟩) hS0 rfl ?_
  try simp only [Act.put, List.setIfInBounds_toArray, List.set_cons_zero, List.set_cons_succ]
  refine pure_ (i := 5) (N := some 13) (v := .pointer (some ⟨w.heap.size, 0, Option.none⟩)) #[true, true, true, true, true, true, false, false, false, false, false, false] rfl rfl (by kernel_rfl) (fun _ _ _ h => h) (Or.inl ⟨wanted_none rfl, fun w => by go_simp⟩) rfl ?_
  try simp only [Act.put, List.setIfInBounds_toArray, List.set_cons_zero, List.set_cons_succ]
  refine take_ (i := 6) (N := some 14) (v := .agg #[.bool f1, .int .i64 f2]) #[true, true, true, true, true, true, true, false, false, false, false, false] rfl rfl (by kernel_rfl) (fun _ _ _ h => h) (Or.inl ⟨wanted_none rfl, by intro w' hSw; exact exec_load_ad (.tmp 13) rfl w.heap.size 0 (f1, f2) rfl ((hB1.keeps hSw hbu).cell 0 _ rfl) ((hB1.keeps hSw hbu).cell 1 _ rfl)⟩) hS0 rfl ?_
  try simp only [Act.put, List.setIfInBounds_toArray, List.set_cons_zero, List.set_cons_succ]
  have hbs := Blk.new w1.drew 27 [.bool f1, .int .i64 f2]
  have ks : Keeps None w1 (w1.drew.alloc (.cells #[.bool f1, .int .i64 f2] 27)) := ((Keeps.refl _ _).drew).alloc _
  refine one_ (i := 7) (oi := ({ dst := some 15, op := Op.buildSlice 46 1 #[(0, Operand.tmp 14)], type := 46, pos := "ref.go:33", after := #[{ on := 6, ground := Ground.data }], guard := Option.none } : Oper)) (N := some 15) #[true, true, true, true, true, true, true, true, false, false, false, false] rfl rfl (by kernel_rfl) (by decide) ?_
  intro KK hKK
  refine value_ (wanted_none rfl) rfl (w1 := w1.drew.alloc (.cells #[.bool f1, .int .i64 f2] 27)) (v := .slice (some ⟨w1.drew.heap.size, 0, Option.none⟩) 1 1) (by go_simp) (hKK.out _ _ ks.of_none (fun hS1 => ?_))
  try simp only [Act.put, List.setIfInBounds_toArray, List.set_cons_zero, List.set_cons_succ]
  refine one_ (i := 8) (oi := ({ dst := some 16, op := Op.call { callee := Callee.builtin Builtin.append, args := #[Operand.tmp 12, Operand.tmp 15], argTypes := #[46, 46] }, type := 46, pos := "ref.go:33", after := #[{ on := 4, ground := Ground.data }, { on := 7, ground := Ground.data }], guard := Option.none } : Oper)) (N := some 16) #[true, true, true, true, true, true, true, true, true, false, false, false] rfl rfl (by kernel_rfl) (by decide) ?_
  intro KK hKK
  refine step_append_row _ (wanted_none rfl) rfl (.tmp 12) (.tmp 15) 46 rfl base 27 iA _ 2 16 Try.underlying46 hiA hzA0 hzA1 hzA2 rfl (by decide) (.slice Au S.length cu) S.length (Ads.cells S) rfl (owns_grew hR1.sent ks) (some ⟨w1.drew.heap.size, 0, Option.none⟩) 1 1 [.bool f1, .int .i64 f2] rfl rfl (fun e => by cases e) (src_cells hbs) (by intro u hu; simp at hu; rcases hu with rfl | rfl <;> rfl) (by unfold maxLen; omega) (by omega) (by have := ks.size; have := hR1.blk.lt; have := hR1.hr; omega) ?_
  intro u' w5 hown5 hk5 hloc5
  obtain ⟨A5, c5, rfl⟩ := owns_slice hown5
  refine hKK.out _ _ (hS1.andThen hk5 (fun _ _ e => e)) (fun hS2 => ?_)
  try simp only [Act.put, List.setIfInBounds_toArray, List.set_cons_zero, List.set_cons_succ]
  refine pure_ (i := 9) (N := some 17) (v := .pointer (some ⟨r, 0, Option.none⟩)) #[true, true, true, true, true, true, true, true, true, true, false, false] rfl rfl (by kernel_rfl) (fun _ _ _ h => h) (Or.inl ⟨wanted_none rfl, fun w => by go_simp⟩) rfl ?_
  try simp only [Act.put, List.setIfInBounds_toArray, List.set_cons_zero, List.set_cons_succ]
  refine pure_ (i := 10) (N := some 18) (v := .pointer (some ⟨r, 1, Option.none⟩)) #[true, true, true, true, true, true, true, true, true, true, true, false] rfl rfl (by kernel_rfl) (fun _ _ _ h => h) (Or.inl ⟨wanted_none rfl, fun w => by go_simp⟩) rfl ?_
  try simp only [Act.put, List.setIfInBounds_toArray, List.set_cons_zero, List.set_cons_succ]
  have hB5 := hR1.blk.keeps hS2 hru
  have fr5 := hB5.free 1
  have hc5 := hB5.cell 1 _ rfl
  refine last_ (i := 11) (oi := ({ dst := Option.none, op := Op.store 46 (Operand.tmp 18) (Operand.tmp 16), type := 0, pos := "ref.go:33", after := #[{ on := 10, ground := Ground.data }, { on := 8, ground := Ground.data }, { on := 8, ground := Ground.chain }, { on := 0, ground := Ground.phase }, { on := 1, ground := Ground.phase }, { on := 2, ground := Ground.phase }, { on := 3, ground := Ground.phase }, { on := 4, ground := Ground.phase }, { on := 5, ground := Ground.phase }, { on := 6, ground := Ground.phase }, { on := 7, ground := Ground.phase }, { on := 8, ground := Ground.phase }], guard := Option.none } : Oper)) (N := Option.none) #[true, true, true, true, true, true, true, true, true, true, true, true] rfl rfl (by kernel_rfl) (by decide) ?_
  intro KK hKK
  refine skip_ (wanted_none rfl) rfl (w1 := w5.setCell ⟨r, 1, Option.none⟩ (.slice A5 (S.length + 1) c5)) (by go_simp) (hKK.out _ _ ?_)
  try simp only [Act.put, List.setIfInBounds_toArray, List.set_cons_zero, List.set_cons_succ]
  refine done_ (by kernel_rfl) ?_
  have hw5 : Keeps (One r) w5 (w5.setCell ⟨r, 1, Option.none⟩ (.slice A5 (S.length + 1) c5)) := (Keeps.refl _ _).setCell _ _ (fun _ => rfl)
  have hB6 := hB5.set 1 (.slice A5 (S.length + 1) c5)
  simp only [List.set] at hB6
  have hrow5 := owns_keeps hR1.row hS2 (fun b hb e => rows_apart hR1.row hR1.sent (by decide) hb e)
  have hne1 : ∀ b, (Value.slice Av L.length cv).ownBlock = some b → ¬ One r b := fun b hb e => by
    obtain ⟨cur, hc⟩ := owns_obj hrow5 hb
    rw [show b = r from e, hB5.raw] at hc
    cases hc
  have hne2 : ∀ b, (Value.slice A5 (S.length + 1) c5).ownBlock = some b → ¬ One r b := fun b hb e => by
    obtain ⟨cur, hc⟩ := owns_obj hown5 hb
    rw [show b = r from e, hB5.raw] at hc
    cases hc
  have hR2 : Rn (w5.setCell ⟨r, 1, Option.none⟩ (.slice A5 (S.length + 1) c5)) r base (.slice Av L.length cv) (.slice A5 (S.length + 1) c5) L (S ++ [(f1, f2)]) :=
    ⟨hB6, owns_keeps hrow5 hw5 hne1, by
      have := owns_keeps hown5 hw5 hne2
      rw [Ads.cells_snoc, List.length_append]
      exact this, hR1.hr, hR1.data⟩
  have k2 : Keeps (MineR r (.slice Av L.length cv) (.slice Au S.length cu)) w1 (w5.setCell ⟨r, 1, Option.none⟩ (.slice A5 (S.length + 1) c5)) := (hS2.mono (fun b _ e => .inr (.inr e))).andThen hw5 (fun b _ e => .inl e)
  have hB2 := (hB1.keeps hS2 hbu).keeps hw5 (fun e => by have := hR.blk.lt; simp only [One] at e; omega)
  have hnlu : NewL (.slice Au S.length cu) (.slice A5 (S.length + 1) c5) w := fun b hb => by
    rcases hloc5 with h | h
    · exact .inl (h ▸ hb)
    · rw [hb] at h
      have h1 := Option.some.inj h
      have h2 := ks.size
      have h3 := k0.size
      exact .inr (by omega)
  generalize w5.setCell ⟨r, 1, Option.none⟩ (.slice A5 (S.length + 1) c5) = w2 at hR2 k2 hB2 ⊢
  clear hw5 hB6 hrow5 hne1 hne2 hB5 hc5 fr5 hS0 hS1 hS2 hown5 hk5 ks hbs
  have hlenS : (S ++ [(f1, f2)]).length = S.length + 1 := by simp
  have hcnt : (countF (S ++ [(f1, f2)]) (f1, f2) : Int) = (countF S (f1, f2) : Int) + 1 := by rw [countF_snoc]; simp
  obtain ⟨S', eS⟩ : ∃ S', S' = S ++ [(f1, f2)] := ⟨_, rfl⟩
  rw [← eS] at hR2 hlenS hcnt
  have hAd := (Ads.of_owns (l := S') (n := S.length + 1) (by rw [← hlenS]; rw [← hlenS] at hR2; exact hR2.sent)).1
  have hC0 := countF_le S (f1, f2)
  obtain ⟨C, hC⟩ : ∃ C : Int, C = (countF S (f1, f2) : Int) + 1 := ⟨_, rfl⟩
  have HS := Lib.hid hlenS
  have HC := Lib.hid (hcnt.trans hC.symm)
  have HCC := Lib.hid hC
  have HE := Lib.hid eS
  clear hlenS hcnt eS hC
  go_wp2_with fail
  go_loopw [6, 7] (fun y i wr => ∃ k : Nat, k ≤ S.length + 1 ∧ i = .int .i64 k ∧ (∃ c : Nat, y = .int .i64 c ∧ c ≤ k ∧ Hid (c = countF (S'.take k) (f1, f2))) ∧ Keeps None w2 wr) (fun _ i _ => S.length + 1 - (intOf i).toNat)
  case atStart => exact ⟨0, Nat.zero_le _, rfl, ⟨0, rfl, Nat.le_refl _, Lib.hid rfl⟩, Keeps.refl _ _⟩
  case round =>
    obtain ⟨k, hk, rfl, ⟨c, rfl, hck, hc⟩, hK⟩ := hrel
    have hb := hB2.grew hK
    have d0 := hb.cell 0 _ rfl
    have d1 := hb.cell 1 _ rfl
    have hRr := hR2.grew hK
    have v1 := hRr.blk.cell 1 _ rfl
    by_cases hlt : k < S.length + 1
    · obtain ⟨⟨x1, x2⟩, hx⟩ : ∃ x, S'[k]? = some x := ⟨_, List.getElem?_eq_getElem (by rw [HS.out]; exact hlt)⟩
      obtain ⟨b, o, rfl, e0, e1⟩ := hAd.grew hK k _ hx
      have HT := Lib.hid (take_succ_of hx)
      clear hx
      simp only at e0 e1
      by_cases h1 : x1 = f1
      · subst h1
        by_cases h2 : x2 = f2
        · subst h2
          have HC2 : Hid (c + 1 = countF (S'.take (k + 1)) (x1, x2)) := Lib.hid (by rw [HT.out, countF_snoc, ← hc.out]; simp)
          have hw1 : IntKind.i64.wrap ((c : Int) + 1) = (c : Int) + 1 := by rw [IntKind.wrap_i64]; omega
          go_wp2_with fail
          go_quiet (fail)
          go_wp2_with fail
          go_roundw
          case rel => exact ⟨k + 1, by omega, by go_num, ⟨c + 1, by go_num, by omega, HC2⟩, hK.drewN _⟩
          case measure => simp [intOf]; omega
        · obtain ⟨q1, q2⟩ := test_ne h2
          have HC2 : Hid (c = countF (S'.take (k + 1)) (x1, f2)) := Lib.hid (by rw [HT.out, countF_snoc, ← hc.out]; simp [h2])
          go_wp2_with fail
          go_quiet (fail)
          go_wp2_with fail
          go_roundw
          case rel => exact ⟨k + 1, by omega, by go_num, ⟨c, rfl, by omega, HC2⟩, hK.drewN _⟩
          case measure => simp [intOf]; omega
      · have q1 : (x1 == f1) = false := by simp [h1]
        have HC2 : Hid (c = countF (S'.take (k + 1)) (f1, f2)) := Lib.hid (by rw [HT.out, countF_snoc, ← hc.out]; simp [h1])
        go_wp2_with fail
        go_quiet (fail)
        go_wp2_with fail
        go_roundw
        case rel => exact ⟨k + 1, by omega, by go_num, ⟨c, rfl, by omega, HC2⟩, hK.drewN _⟩
        case measure => simp [intOf]; omega
    · obtain rfl : k = S.length + 1 := by omega
      have hcC : (c : Int) = C := by
        have := hc.out
        rw [List.take_of_length_le (by rw [HS.out]; exact Nat.le_refl _)] at this
        rw [this, HC.out]
      rw [hcC]
      clear hcC
      have d3 := hb.cell 3 _ rfl
      have d4 := hb.cell 4 _ rfl
      go_wp2_with fail
      refine (rpair_any (f1, f2) (t1, t2) wr hRr hn).mono ?_
      rintro e w3 ⟨rfl, hk3⟩
      have hRw3 := hRr.grew hk3
      have hbw3 := hb.grew hk3
      have kall : Keeps (MineR r (.slice Av L.length cv) (.slice Au S.length cu)) w w3 := (((k0.of_none).andThen k2 (fun _ _ e => e)).andThen hK (fun _ _ f => f.elim)).andThen hk3 (fun _ _ f => f.elim)
      by_cases h64 : 64 ≤ pairsF L ((f1, f2), (t1, t2))
      · have h64' : (64 : Int) ≤ (pairsF L ((f1, f2), (t1, t2)) : Int) := by omega
        go_wp2_with fail
        refine bodyPost_ret (results_tmp2 rfl _ _ _) rfl ⟨_, hnlu, .inl ⟨h64, ?_, HE.out ▸ hRw3, kall⟩⟩
        rw [← HCC.out]
        rfl
      · have h64' : ¬ (64 : Int) ≤ (pairsF L ((f1, f2), (t1, t2)) : Int) := by omega
        have fr2 := hbw3.free 2
        have c2 := hbw3.cell 2 _ rfl
        go_wp2_with fail
        have ks4 : Keeps (One w.heap.size) w3 (w3.setCell ⟨w.heap.size, 2, Option.none⟩ (.int .i64 C)) := (Keeps.refl _ _).setCell _ _ (fun _ => rfl)
        have hB4 := hbw3.set 2 (.int .i64 C)
        simp only [List.set] at hB4
        have hRlt : ∀ b, MineR r (.slice Av L.length cv) (.slice A5 (S.length + 1) c5) b → ¬ One w.heap.size b := fun b hm e => by
          rcases hm with h | h | h
          · have := hR.blk.lt; simp only [One] at e; omega
          · have := hR.mine_lt b (.inr (.inl h)); simp only [One] at e; omega
          · obtain ⟨cur, hc⟩ := owns_obj hRw3.sent h
            rw [show b = w.heap.size from e, hbw3.raw] at hc
            cases hc
        have hR4 := hRw3.keeps ks4 hRlt
        generalize w3.setCell ⟨w.heap.size, 2, Option.none⟩ (.int .i64 C) = w4 at ks4 hB4 hR4 ⊢
        have kall4 := kall.andThen ks4 (fun b hb e => by simp only [One] at e; omega)
        have hrv : ¬ OwnB (.slice Av L.length cv) r := fun e => by
          obtain ⟨cur, hc⟩ := owns_obj hR4.row e
          rw [hR4.blk.raw] at hc
          cases hc
        have hbv : ¬ OwnB (.slice Av L.length cv) w.heap.size := fun e => by have := hR.mine_lt _ (.inr (.inl e)); omega
        clear hRr hb d0 d1 v1 d3 d4 c2 fr2 hbw3 hRw3 hB2 hR2 hc
        go_wp2_with fail
        refine start_ (ds := [10]) (S := (fun w' => Keeps (OwnB (.slice Av L.length cv)) w4 w')) #[false, false, false, false, false, false, false, false, false, false, false] (by kernel_rfl) rfl rfl ((Keeps.refl _ _).drew) (fun hS0 => ?_)
        refine pure_ (i := 0) (N := some 50) (v := .pointer (some ⟨r, 0, Option.none⟩)) #[true, false, false, false, false, false, false, false, false, false, false] rfl rfl (by kernel_rfl) (fun _ _ _ h => h) (Or.inl ⟨wanted_none rfl, fun w => by rfl⟩) rfl ?_
        try simp only [Act.put, List.setIfInBounds_toArray, List.set_cons_zero, List.set_cons_succ]
        refine pure_ (i := 1) (N := some 51) (v := .pointer (some ⟨r, 0, Option.none⟩)) #[true, true, false, false, false, false, false, false, false, false, false] rfl rfl (by kernel_rfl) (fun _ _ _ h => h) (Or.inl ⟨wanted_none rfl, fun w => by rfl⟩) rfl ?_
        try simp only [Act.put, List.setIfInBounds_toArray, List.set_cons_zero, List.set_cons_succ]
        refine pure_ (i := 2) (N := some 52) (v := .pointer (some ⟨r, 0, Option.none⟩)) #[true, true, true, false, false, false, false, false, false, false, false] rfl rfl (by kernel_rfl) (fun _ _ _ h => h) (Or.inl ⟨wanted_none rfl, fun w => by go_simp⟩) rfl ?_
        try simp only [Act.put, List.setIfInBounds_toArray, List.set_cons_zero, List.set_cons_succ]
        refine pure_ (i := 3) (N := some 53) (v := .pointer (some ⟨r, 0, Option.none⟩)) #[true, true, true, true, false, false, false, false, false, false, false] rfl rfl (by kernel_rfl) (fun _ _ _ h => h) (Or.inl ⟨wanted_none rfl, fun w => by go_simp⟩) rfl ?_
        try simp only [Act.put, List.setIfInBounds_toArray, List.set_cons_zero, List.set_cons_succ]
        refine take_ (i := 4) (N := some 54) (v := .slice Av L.length cv) #[true, true, true, true, true, false, false, false, false, false, false] rfl rfl (by kernel_rfl) (fun _ _ _ h => h) (Or.inl ⟨wanted_none rfl, by intro w' hSw; have q := (hR4.blk.keeps hSw hrv).cell 0 _ rfl; go_simp⟩) hS0 rfl ?_
        try simp only [Act.put, List.setIfInBounds_toArray, List.set_cons_zero, List.set_cons_succ]
        refine take_ (i := 5) (N := some 55) (v := .agg #[.bool f1, .int .i64 f2, .int .i64 C, .bool t1, .int .i64 t2, .slice Ax zs.length cd]) #[true, true, true, true, true, true, false, false, false, false, false] rfl rfl (by kernel_rfl) (fun _ _ _ h => h) (Or.inl ⟨wanted_none rfl, by intro w' hSw; exact exec_load_pk (.tmp 3) rfl w.heap.size 0 ⟨(f1, f2), C, (t1, t2), .slice Ax zs.length cd⟩ rfl (hB4.pk.keeps hSw hbv)⟩) hS0 rfl ?_
        try simp only [Act.put, List.setIfInBounds_toArray, List.set_cons_zero, List.set_cons_succ]
        have hbs := Blk.new w4.drew 33 [.bool f1, .int .i64 f2, .int .i64 C, .bool t1, .int .i64 t2, .slice Ax zs.length cd]
        have ks : Keeps None w4 (w4.drew.alloc (.cells #[.bool f1, .int .i64 f2, .int .i64 C, .bool t1, .int .i64 t2, .slice Ax zs.length cd] 33)) := ((Keeps.refl _ _).drew).alloc _
        refine one_ (i := 6) (oi := ({ dst := some 56, op := Op.buildSlice 39 1 #[(0, Operand.tmp 55)], type := 39, pos := "ref.go:44", after := #[{ on := 5, ground := Ground.data }], guard := Option.none } : Oper)) (N := some 56) #[true, true, true, true, true, true, true, false, false, false, false] rfl rfl (by kernel_rfl) (by decide) ?_
        intro KK hKK
        refine value_ (wanted_none rfl) rfl (w1 := w4.drew.alloc (.cells #[.bool f1, .int .i64 f2, .int .i64 C, .bool t1, .int .i64 t2, .slice Ax zs.length cd] 33)) (v := .slice (some ⟨w4.drew.heap.size, 0, Option.none⟩) 1 1) (by go_simp) (hKK.out _ _ ks.of_none (fun hS1 => ?_))
        try simp only [Act.put, List.setIfInBounds_toArray, List.set_cons_zero, List.set_cons_succ]
        refine one_ (i := 7) (oi := ({ dst := some 57, op := Op.call { callee := Callee.builtin Builtin.append, args := #[Operand.tmp 54, Operand.tmp 56], argTypes := #[39, 39] }, type := 39, pos := "ref.go:44", after := #[{ on := 4, ground := Ground.data }, { on := 6, ground := Ground.data }], guard := Option.none } : Oper)) (N := some 57) #[true, true, true, true, true, true, true, true, false, false, false] rfl rfl (by kernel_rfl) (by decide) ?_
        intro KK hKK
        refine step_append_row _ (wanted_none rfl) rfl (.tmp 54) (.tmp 56) 39 rfl base 33 i0 _ 6 64 Try.underlying39 hi hz0 hz1 hz2 rfl (by decide) (.slice Av L.length cv) L.length L.cells rfl (owns_grew hR4.row ks) (some ⟨w4.drew.heap.size, 0, Option.none⟩) 1 1 [.bool f1, .int .i64 f2, .int .i64 C, .bool t1, .int .i64 t2, .slice Ax zs.length cd] rfl rfl (fun e => by cases e) (src_cells hbs) (Pk.cells_one (p := ⟨(f1, f2), C, (t1, t2), .slice Ax zs.length cd⟩) rfl) (by unfold maxLen; omega) (by omega) (by have := ks.size; have := hR4.blk.lt; have := hR4.hr; omega) ?_
        intro v' w6 hown6 hk6 hloc6
        obtain ⟨A6, c6, rfl⟩ := owns_slice hown6
        refine hKK.out _ _ (hS1.andThen hk6 (fun _ _ e => e)) (fun hS2 => ?_)
        try simp only [Act.put, List.setIfInBounds_toArray, List.set_cons_zero, List.set_cons_succ]
        refine pure_ (i := 8) (N := some 58) (v := .pointer (some ⟨r, 0, Option.none⟩)) #[true, true, true, true, true, true, true, true, true, false, false] rfl rfl (by kernel_rfl) (fun _ _ _ h => h) (Or.inl ⟨wanted_none rfl, fun w => by go_simp⟩) rfl ?_
        try simp only [Act.put, List.setIfInBounds_toArray, List.set_cons_zero, List.set_cons_succ]
        refine pure_ (i := 9) (N := some 59) (v := .pointer (some ⟨r, 0, Option.none⟩)) #[true, true, true, true, true, true, true, true, true, true, false] rfl rfl (by kernel_rfl) (fun _ _ _ h => h) (Or.inl ⟨wanted_none rfl, fun w => by go_simp⟩) rfl ?_
        try simp only [Act.put, List.setIfInBounds_toArray, List.set_cons_zero, List.set_cons_succ]
        have hB6 := hR4.blk.keeps hS2 hrv
        have fr6 := hB6.free 0
        have hc6 := hB6.cell 0 _ rfl
        refine last_ (i := 10) (oi := ({ dst := Option.none, op := Op.store 39 (Operand.tmp 59) (Operand.tmp 57), type := 0, pos := "ref.go:44", after := #[{ on := 9, ground := Ground.data }, { on := 7, ground := Ground.data }, { on := 7, ground := Ground.chain }, { on := 0, ground := Ground.phase }, { on := 1, ground := Ground.phase }, { on := 2, ground := Ground.phase }, { on := 3, ground := Ground.phase }, { on := 4, ground := Ground.phase }, { on := 5, ground := Ground.phase }, { on := 6, ground := Ground.phase }, { on := 7, ground := Ground.phase }], guard := Option.none } : Oper)) (N := Option.none) #[true, true, true, true, true, true, true, true, true, true, true] rfl rfl (by kernel_rfl) (by decide) ?_
        intro KK hKK
        refine skip_ (wanted_none rfl) rfl (w1 := w6.setCell ⟨r, 0, Option.none⟩ (.slice A6 (L.length + 1) c6)) (by go_simp) (hKK.out _ _ ?_)
        try simp only [Act.put, List.setIfInBounds_toArray, List.set_cons_zero, List.set_cons_succ]
        refine done_ (by kernel_rfl) ?_
        have hw6 : Keeps (One r) w6 (w6.setCell ⟨r, 0, Option.none⟩ (.slice A6 (L.length + 1) c6)) := (Keeps.refl _ _).setCell _ _ (fun _ => rfl)
        have hB7 := hB6.set 0 (.slice A6 (L.length + 1) c6)
        simp only [List.set] at hB7
        have hsent6 := owns_keeps hR4.sent hS2 (fun b hb e => rows_apart hR4.row hR4.sent (by decide) e hb)
        have hn1 : ∀ b, (Value.slice A5 (S.length + 1) c5).ownBlock = some b → ¬ One r b := fun b hb e => by
          obtain ⟨cur, hc⟩ := owns_obj hsent6 hb
          rw [show b = r from e, hB6.raw] at hc
          cases hc
        have hn2 : ∀ b, (Value.slice A6 (L.length + 1) c6).ownBlock = some b → ¬ One r b := fun b hb e => by
          obtain ⟨cur, hc⟩ := owns_obj hown6 hb
          rw [show b = r from e, hB6.raw] at hc
          cases hc
        have hR7 : Rn (w6.setCell ⟨r, 0, Option.none⟩ (.slice A6 (L.length + 1) c6)) r base (.slice A6 (L.length + 1) c6) (.slice A5 (S.length + 1) c5) (L ++ [((⟨(f1, f2), C, (t1, t2), .slice Ax zs.length cd⟩ : Pk), zs)]) S' :=
          ⟨hB7, by
            have := owns_keeps hown6 hw6 hn2
            rw [Way.cells_append, List.length_append]
            exact this, owns_keeps hsent6 hw6 hn1, hR4.hr, fun y hy => by
            rcases List.mem_append.1 hy with h | h
            · exact hR4.data y h
            · obtain rfl := List.mem_singleton.1 h
              exact ⟨Ax, cd, rfl⟩⟩
        have kall7 := (kall4.andThen hS2 (fun b _ e => .inr (.inl e))).andThen hw6 (fun b _ e => .inl e)
        have hnlv : NewL (.slice Av L.length cv) (.slice A6 (L.length + 1) c6) w := fun b hb => by
          rcases hloc6 with h | h
          · exact .inl (h ▸ hb)
          · rw [hb] at h
            have h1 := Option.some.inj h
            have h2 := ks.size
            have h3 := kall4.size
            exact .inr (by omega)
        generalize w6.setCell ⟨r, 0, Option.none⟩ (.slice A6 (L.length + 1) c6) = w7 at hR7 kall7 ⊢
        clear hw6 hB7 hB6 hc6 fr6
        go_wp2_with fail
        refine bodyPost_ret (results_tmp2 rfl _ _ _) rfl ⟨_, hnlu, .inr ⟨by show pairsF L ((f1, f2), (t1, t2)) < 64; omega, ?_, _, HE.out ▸ (HCC.out ▸ hR7), hnlv, kall7⟩⟩
        rw [← HCC.out]
        rfl
end Go.Proofs.Ytcplogdaepmpnaa
