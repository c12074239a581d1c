/- The machine's read: the block with the greatest tag. -/
import Derived.Test.YtcihfjfbcfgidaaTalSeq
import Derived.Test.YtcihfjfbcfgidaaHead
import Derived.Test.YtcihfjfbcfgidaaStampEq
namespace Go.Proofs.Ytcihfjfbcfgidaa
open Go.RowKit Go.Maps Go.Proofs.Ytcihfjfbcfgidaa.TG Go.Proofs.Ytcihfjfbcfgidaa.TB

attribute [local go_sem] Oper.semAt_some

/-- The first of that stamp: its data. -/
def pickV (bs : List BV) (t1 t2 : Int) : Value := match bs.find? (fun y => decide (y.n = t1 ∧ y.c = t2)) with | some y => .slice y.A y.m y.cap | none => .slice none 0 0

theorem pick_none (bs : List BV) (t1 t2 : Int) (h : ∀ y ∈ bs, ¬ (y.n = t1 ∧ y.c = t2)) : pickV bs t1 t2 = .slice none 0 0 := by
  unfold pickV
  rw [List.find?_eq_none.2 (fun y hy => by simpa using h y hy)]
theorem pick_some (pre rest : List BV) (y : BV) (t1 t2 : Int) (h : ∀ y ∈ pre, ¬ (y.n = t1 ∧ y.c = t2)) (hy : y.n = t1 ∧ y.c = t2) : pickV (pre ++ y :: rest) t1 t2 = .slice y.A y.m y.cap := by
  unfold pickV
  rw [List.find?_append, List.find?_eq_none.2 (fun y hy => by simpa using h y hy)]
  simp [hy]
theorem zip_snd {α β : Type} (xs : List α) (bs : List β) (h : bs.length = xs.length) : (xs.zip bs).map (·.2) = bs := List.map_snd_zip (by omega)

set_option maxRecDepth 100000 in
theorem results_read (tmps : Array Value) (w : World) (k : Nat) (x0 : Value) (hp : tmps.getD 6 undef = .pointer (some ⟨k, 0, Option.none⟩)) (c0 : w.cell? ⟨k, 0, Option.none⟩ = some x0) :
    (results Try.f102 tmps).run Try.prog w = .ok x0 w := by
  have hp' : tmps[6]?.getD undef = .pointer (some ⟨k, 0, Option.none⟩) := by simpa using hp
  simp [results, Try.results102, go_sem, hp', c0, asAddr]

set_option maxRecDepth 100000 in
set_option maxHeartbeats 2000000 in
theorem read_any (g : Nat) (client op round need k0 k1 k2 k3 : Int) (v : Value) (wr : Bool) (bl : Value) (size : Int) (st : Value) (tg base : Nat) (vg : Value) (grp : List Int) (need' : Int) (bm : Nat) (got : List (Int × Value)) (t1 t2 : Int) (w : World)
    (hB : Blk w g 109 (mcells client op round need k0 k1 k2 k3 v wr bl size st)) (hT : Tal w tg base vg grp need' bm got) (hwf : ∀ s ∈ grp, (Lit.int .i64 s).wf = true) (hgl : grp.length ≤ 1000) (ht : ¬ (t1 = 0 ∧ t2 = 0)) :
    Calls Try.prog 102 #[.pointer (some ⟨g, 0, Option.none⟩), .pointer (some ⟨tg, 0, Option.none⟩), .agg #[.int .i64 t1, .int .i64 t2]] w fun e w' => ∃ bs, bs.map BV.val = ansF grp got ∧ e = .returned (pickV bs t1 t2) ∧ Keeps None w w' := by
  have k0' := ((Keeps.refl None w).alloc (.cells #[.int .i64 t1, .int .i64 t2] 23)).alloc (.cells #[.slice Option.none 0 0] 24)
  have hb0 := (Blk.new w 23 [.int .i64 t1, .int .i64 t2]).alloc (.cells #[.slice Option.none 0 0] 24)
  have hb1 : Blk ((w.alloc (.cells #[.int .i64 t1, .int .i64 t2] 23)).alloc (.cells #[.slice Option.none 0 0] 24)) (w.heap.size + 1) 24 [.slice Option.none 0 0] := by
    have := Blk.new (w.alloc (.cells #[.int .i64 t1, .int .i64 t2] 23)) 24 [.slice Option.none 0 0]
    rwa [World.size_alloc] at this
  have q0 := hb0.cell 0 _ rfl
  have q1 := hb0.cell 1 _ rfl
  have hcmp : ∀ w, (binOp .eql 23 (.agg #[.int .i64 t1, .int .i64 t2]) (.agg #[.int .i64 0, .int .i64 0])).run Try.prog w = .ok (.bool false) w := fun w => by rw [eql_stamp]; simp [ht]
  refine (callsIn_wide (n := 6)).1 ?_
  refine callsIn_of_wp_marks Try.func102 rfl trivial ?_ rfl
  simp only [Try.ntmps102, List.size_toArray, List.length_cons, List.length_nil, Nat.reduceAdd, Nat.reduceSub, Array.replicate_succ, Array.replicate_zero, List.push_toArray, List.append_toArray, List.nil_append, List.cons_append]
  gi_wp2
  refine ⟨trivial, ?_⟩
  refine (callsIn_wide.2 (gotseq_any tg base vg grp need' bm got _ (hT.grew k0') hwf hgl)).mono ?_
  rintro e w1 ⟨rfl, ⟨v1, v2, bs, h2, hbs⟩, hk1⟩
  have hsz := k0'.size
  have hs1 := hk1.size
  have hcl := hb1.lt
  have hC0 := hb0.grew hk1
  have hC1 := hb1.grew hk1
  have hal := ansF_len grp got
  have hhl : (hasF grp got).length ≤ grp.length := List.length_filter_le _ _
  have hbl : bs.length = (hasF grp got).length := by rw [← hal, ← hbs, List.length_map]
  clear q0 q1 hcmp
  simp only [World.size_alloc] at h2 hsz hs1 hcl
  have hlt2 : w.heap.size + 1 + 1 + 1 < w1.heap.size := h2.blk2.lt
  have hr1 := h2.row1.lt
  have hr2 := h2.row2.lt
  gi_wp2
  refine range_good (F := Fence.wide) rfl (by omega) (gf := 107) (lb := #[.pointer (some ⟨w.heap.size + 1 + 1, 0, Option.none⟩), .pointer (some ⟨w.heap.size + 1 + 1 + 1, 0, Option.none⟩)]) rfl trivial (enters_of Try.func107 (by kernel_rfl) rfl)
    (seqB 5 (by omega) (w.heap.size + 1 + 1) (w.heap.size + 1 + 1) (w.heap.size + 1 + 1 + 1) v1 v2 (hasF grp got) bs hbl (by omega)) (fun _ => rfl) w1.heap.size rfl
    (fun pre W => Blk W w.heap.size 23 [.int .i64 t1, .int .i64 t2] ∧ Blk W (w.heap.size + 1) 24 [.slice Option.none 0 0] ∧ (∀ x ∈ pre, ¬ (x.2.n = t1 ∧ x.2.c = t2)) ∧ Keeps None w1 W)
    (fun c pre W => c = .ret ∧ (∃ pre0 y, pre = pre0 ++ [y] ∧ (∀ x ∈ pre0, ¬ (x.2.n = t1 ∧ x.2.c = t2)) ∧ (y.2.n = t1 ∧ y.2.c = t2) ∧ Blk W (w.heap.size + 1) 24 [.slice y.2.A y.2.m y.2.cap]) ∧ Keeps (One (w.heap.size + 1)) w1 W)
    (fun b => b = w.heap.size + 1 ∨ w1.heap.size + 2 ≤ b) ⟨fun e => by omega, fun e => by omega⟩
    ?_ ?_ ?_ ⟨hC0, hC1, (fun _ h => by cases h), Keeps.refl _ _⟩ h2
    (fun x => #[.pointer (some ⟨g, 0, Option.none⟩), .pointer (some ⟨tg, 0, Option.none⟩), .agg #[.int .i64 t1, .int .i64 t2], undef, undef, .pointer (some ⟨w.heap.size, 0, Option.none⟩), .pointer (some ⟨w.heap.size + 1, 0, Option.none⟩), undef, undef, .agg #[.int .i64 t1, .int .i64 t2], .agg #[.int .i64 0, .int .i64 0], .bool false, undef, undef, undef, undef, undef, .pointer (some ⟨tg, 0, Option.none⟩), (.func (.func 107) #[] #[.pointer (some ⟨w.heap.size + 1 + 1, 0, Option.none⟩), .pointer (some ⟨w.heap.size + 1 + 1 + 1, 0, Option.none⟩)]), .int .i64 x.1, x.2.val, undef, undef, undef, undef, undef, undef]) (fun x => by simp [encB]) ?_ ?_ ?_
  · rintro pre X Y ⟨a1, a2, a3, a4⟩ hk
    exact ⟨a1.keeps hk (fun e => by simp only [One] at e; omega), a2.keeps hk (fun e => by simp only [One] at e; omega), a3, a4.andThen hk (fun i hi e => by simp only [One] at e; omega)⟩
  · rintro c pre X Y ⟨a1, ⟨pre0, y, a2, a3, a4, a5⟩, a6⟩ hk
    exact ⟨a1, ⟨pre0, y, a2, a3, a4, a5.keeps hk (fun e => by simp only [One] at e; omega)⟩, a6.andThen hk (fun i hi e => by simp only [One] at e; omega)⟩
  · rintro X Y h hk
    exact h.keeps hk (fun e => by simp only [One] at e; omega) (fun e => by simp only [One] at e; omega) (fun b e f => by simp only [One] at f; have := (hr1 b e).2; omega) (fun b e f => by simp only [One] at f; have := (hr2 b e).2; omega)
  · rintro pre ⟨s, n, c, A, m, cap⟩ W0 W ⟨a1, a2, a3, a4⟩ hk0 hpre hSt hlen hltB
    simp only [BV.val]
    gi_wp2
    have kY := (Keeps.refl None W).alloc (.cells #[.int .i64 n, .int .i64 c, .slice A m cap] 26)
    refine ⟨kY, fun w2 hkw2 => ?_⟩
    have hW2 : ∀ b, b ≠ w1.heap.size + 1 → ¬ One (w1.heap.size + 1) b := fun b hb e => hb e
    have k02 := hk0.trans kY
    have hsW := hk0.size
    have hbX : Blk w2 W.heap.size 26 [.int .i64 n, .int .i64 c, .slice A m cap] := (Blk.new W _ _).keeps hkw2 (hW2 _ (by omega))
    have hb2 := (a1.grew k02).keeps hkw2 (hW2 _ (by omega))
    have hc2 := (a2.grew k02).keeps hkw2 (hW2 _ (by omega))
    have hK2 : Keeps None w1 w2 := (a4.trans k02).andThen hkw2 (fun i hi e => by simp only [One] at e; omega)
    have hSt2 := (hSt.grew kY).keeps hkw2 (fun e => by simp only [One] at e; omega) (fun e => by simp only [One] at e; omega) (fun b e f => by simp only [One] at f; have := (hr1 b e).2; omega) (fun b e f => by simp only [One] at f; have := (hr2 b e).2; omega)
    have x0 := hbX.cell 0 _ rfl
    have x1 := hbX.cell 1 _ rfl
    have x2 := hbX.cell 2 _ rfl
    have y0 := hb2.cell 0 _ rfl
    have y1 := hb2.cell 1 _ rfl
    have z0 := hc2.cell 0 _ rfl
    have f0 := hc2.free 0
    have HA3 := Lib.hid a3
    clear a1 a2 a3 a4 hSt hkw2 kY k02 hk0 hbX h2 hC0 hC1 hb0 hb1
    by_cases hm : n = t1 ∧ c = t2
    · have hcmp : ∀ w, (binOp .eql 23 (.agg #[.int .i64 n, .int .i64 c]) (.agg #[.int .i64 t1, .int .i64 t2])).run Try.prog w = .ok (.bool true) w := fun w => by rw [eql_stamp]; simp [hm]
      have HM := Lib.hid hm
      clear hm
      gi_wp2
      have ks : Keeps (One (w.heap.size + 1)) w2 (w2.setCell ⟨w.heap.size + 1, 0, Option.none⟩ (.slice A m cap)) := (Keeps.refl _ _).setCell _ _ (fun _ => rfl)
      exact ⟨ks.mono (fun _ _ e => .inl e), rfl, ⟨pre, _, rfl, HA3.out, HM.out, hc2.set 0 _⟩, (hK2.of_none).trans ks⟩
    · have hcmp : ∀ w, (binOp .eql 23 (.agg #[.int .i64 n, .int .i64 c]) (.agg #[.int .i64 t1, .int .i64 t2])).run Try.prog w = .ok (.bool false) w := fun w => by rw [eql_stamp]; simp [hm]
      have HM := Lib.hid hm
      clear hm
      gi_wp2
      refine ⟨Keeps.refl _ _, hSt2, hb2, hc2, ?_, hK2⟩
      intro x hx
      rcases List.mem_append.1 hx with hx | hx
      · exact HA3.out x hx
      · obtain rfl := List.mem_singleton.1 hx
        exact HM.out
  · rintro xs W hSf ⟨a1, a2, a3, a4⟩ hD
    have z0 := a2.cell 0 _ rfl
    have f0 := a2.free 0
    have HA3 := Lib.hid a3
    have HSf := Lib.hid hSf
    clear hSf a3 h2
    gi_wp2
    have ks : Keeps (One (w.heap.size + 1)) W (W.setCell ⟨w.heap.size + 1, 0, Option.none⟩ (.slice Option.none 0 0)) := (Keeps.refl _ _).setCell _ _ (fun _ => rfl)
    have kp : Keeps (One w1.heap.size) (W.setCell ⟨w.heap.size + 1, 0, Option.none⟩ (.slice Option.none 0 0)) ((W.setCell ⟨w.heap.size + 1, 0, Option.none⟩ (.slice Option.none 0 0)).putObj w1.heap.size (.deferred Option.none)) := keeps_putObj _ _ _
    have hD2 := (ks.block _ (Array.getElem?_eq_some_iff.1 hD).1 (fun e => by simp only [One] at e; omega)).trans hD
    have hr := (a2.set 0 (.slice Option.none 0 0)).keeps kp (fun e => by simp only [One] at e; omega)
    refine ⟨by simp, .inl ⟨_, _, rfl, run_takeDeferred hD2, ?_⟩⟩
    refine ⟨_, results_read _ _ (w.heap.size + 1) _ rfl (hr.cell 0 _ rfl), bs, hbs, ?_, ?_⟩
    · rw [pick_none]
      intro y hy
      rw [← zip_snd (hasF grp got) bs hbl] at hy
      obtain ⟨x, hx, rfl⟩ := List.mem_map.1 hy
      exact HA3.out x (HSf.out ▸ hx)
    · refine ((((k0'.trans hk1).trans a4).andThen ks (fun i hi e => ?_)).andThen kp (fun i hi e => ?_)) <;> (simp only [One] at e; omega)
  · rintro c pre W hSp ⟨rfl, ⟨pre0, y, rfl, a3, a4, a5⟩, a6⟩ hD
    have z0 := a5.cell 0 _ rfl
    have HA3 := Lib.hid (And.intro a3 a4)
    have HSp := Lib.hid hSp
    clear hSp a3 a4 h2
    gi_wp2
    have kp : Keeps (One w1.heap.size) W (W.putObj w1.heap.size (.deferred Option.none)) := keeps_putObj _ _ _
    have hr := a5.keeps kp (fun e => by simp only [One] at e; omega)
    refine ⟨by simp, .inl ⟨_, _, rfl, run_takeDeferred hD, ?_⟩⟩
    refine ⟨_, results_read _ _ (w.heap.size + 1) _ rfl (hr.cell 0 _ rfl), bs, hbs, ?_, ?_⟩
    · obtain ⟨rest, hrest⟩ := HSp.out
      have e1 : bs = pre0.map (·.2) ++ y.2 :: rest.map (·.2) := by
        rw [← zip_snd (hasF grp got) bs hbl, ← hrest]
        simp
      rw [e1, pick_some _ _ _ _ _ (fun z hz => by obtain ⟨x, hx, rfl⟩ := List.mem_map.1 hz; exact HA3.out.1 x hx) HA3.out.2]
    · refine ((k0'.trans hk1).andThen a6 (fun i hi e => ?_)).andThen kp (fun i hi e => ?_) <;> (simp only [One] at e; omega)
end Go.Proofs.Ytcihfjfbcfgidaa
