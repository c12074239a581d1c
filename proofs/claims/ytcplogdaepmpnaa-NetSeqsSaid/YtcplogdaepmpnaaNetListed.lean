/- cairnlaw16.listed: what is under way, as a list. -/
import Derived.Test.YtcplogdaepmpnaaNetMany
namespace Go.Proofs.Ytcplogdaepmpnaa
open Go.RowKit Go.Shelf

attribute [local go_sem] Oper.semAt_some

theorem wpListIn_append_row {F : Fence} {nF : Nat} {P : Program} (w : World) {ops : Array Oper} {rest : List Oper} {o : Oper} {a : Act} {Q : Exit → Act → World → Prop}
    (hg : o.guard = Option.none) (s x : Operand) (t : TypeId) (hop : o.op = Op.call { callee := Callee.builtin Builtin.append, args := #[s, x], argTypes := #[t, t] })
    (base : Nat) (e : TypeId) (i : TypeInfo) (z : Value) (size bytes : Nat) (ht : P.underlying t = some (.slice e)) (hi : P.info? e = some i) (hz : i.zero = some z)
    (hsize : i.size = size) (hby : i.bytes = bytes) (hzs : z.cells.size = size) (hsz : 0 < size)
    (v : Value) (n : Nat) (xs : List Value) (hs : a.eval s = v) (hown : w.ownsRow base e size v n xs)
    (A : Option Addr) (m c : Nat) (news : List Value) (hx : a.eval x = .slice A m c) (hl : news.length = m * size) (hnil : A = Option.none → c = 0)
    (hsrc : 0 < news.length → ∃ ad, A = some ad ∧ ∀ j u, news[j]? = some u → w.cell? (ad.add j) = some u) (h1 : ∀ u ∈ news, u.oneCell' = true)
    (h63 : n + m ≤ maxLen) (hbytes : (n + m) * bytes ≤ 140737488355328) (hbase : base ≤ w.heap.size)
    (h : ∀ v' w', w'.ownsRow base e size v' (n + m) (xs ++ news) → Keeps (OwnB v) w w' → (v'.ownBlock = v.ownBlock ∨ v'.ownBlock = some w.heap.size) → wpListIn F nF P ops Q rest (a.put o.dst v') w') :
    wpListIn F nF P ops Q (o :: rest) a w := by
  refine wpListIn_plain hg fun K hK' => ?_
  obtain ⟨v', w', hr, h2, h3, h4⟩ := run_append_row (P := P) w base t o.type e i z size bytes ht hi hz hsize hby hzs hsz v n xs hown A m c news hl hnil hsrc h1 h63 hbytes hbase
  unfold Oper.wpIn
  refine ⟨?_, ?_⟩
  · simp [Oper.about, hop, resolve, Target.leads, Sem.run_pure]
  · rw [Oper.semAt_plain F _ _ (by rw [hop]; intro c hc'; cases hc')]
    simp [execOp, hop, resolve, invoke, builtin, hs, hx, hr, Result.andThen]
    exact hK' _ _ (h v' w' h2 h3 h4)

/-- A told list: the packets that are under way, with bytes of their own. -/
structure Told (w : World) (base : Nat) (v : Value) (L M : Way) : Prop where
  same : M.map core = L.map core
  row : w.ownsRow base 33 6 v M.length M.cells
  bytes : ∀ x ∈ M, Row .u8 5 w base x.1.dv x.2
  apart : M.Pairwise (fun x y => ∀ b, x.1.dv.ownBlock = some b → y.1.dv.ownBlock ≠ some b)

theorem rows_apart {w : World} {B B' e e' s s' n n' : Nat} {v v' : Value} {xs xs' : List Value} (h : w.ownsRow B e s v n xs) (h' : w.ownsRow B' e' s' v' n' xs') (he : e ≠ e') {b : Nat} (hb : v.ownBlock = some b) : v'.ownBlock ≠ some b := fun hb' => by
  obtain ⟨c1, h1⟩ := owns_obj h hb
  obtain ⟨c2, h2⟩ := owns_obj h' hb'
  rw [h1] at h2
  cases h2
  exact he rfl

/-- What stands while the list grows: its box, its row, the bytes told so far. -/
structure LI (w1 : World) (bl : Nat) (pre : Way) (W : World) : Prop where
  ex : ∃ u, Blk W bl 39 [u] ∧ W.ownsRow (w1.heap.size + 2) 33 6 u pre.length (Way.cells pre)
  bytes : ∀ x ∈ pre, Row .u8 5 W (w1.heap.size + 2) x.1.dv x.2
  apart : pre.Pairwise (fun x y => ∀ b, x.1.dv.ownBlock = some b → y.1.dv.ownBlock ≠ some b)
  keeps : Keeps (fun b => b = bl ∨ w1.heap.size + 2 ≤ b) w1 W

set_option maxRecDepth 100000 in
set_option maxHeartbeats 2000000 in
theorem listed_any (g base : Nat) (v : Value) (m1 m2 : Nat) (L : Way) (n : Nat) (sn : Ad → Int) (mn : Pr → Int) (w : World) (hN : Nt w g base v m1 m2 L n sn mn) (hn : n ≤ 1000000000000) (hz : ∀ x ∈ L, x.2.length ≤ 140737488351232) :
    Calls Try.prog 16 #[.pointer (some ⟨g, 0, Option.none⟩)] w fun e w' => ∃ u M, e = .returned (.tuple #[u, .bool true]) ∧ Told w' w.heap.size u L M ∧ Keeps None w w' := by
  obtain ⟨i0, hi, hz0, hz1, hz2⟩ := info_parts infoPkAll
  have hmost := hN.most
  have k0 := (Keeps.refl None w).alloc (.cells #[.slice Option.none 0 0] 39)
  have hC := Blk.new w 39 [.slice Option.none 0 0]
  refine (callsIn_wide (n := 6)).1 ?_
  refine callsIn_of_wp_marks Try.func16 rfl trivial ?_ rfl
  simp only [Try.ntmps16, List.size_toArray, List.length_cons, List.length_nil, Nat.reduceAdd, Nat.reduceSub, Array.replicate_succ, Array.replicate_zero, List.push_toArray, List.append_toArray, List.nil_append, List.cons_append]
  gi_wp2
  refine ⟨trivial, ?_⟩
  refine (callsIn_wide.2 (under_any g base v m1 m2 L n sn mn _ (hN.grew k0) (by omega))).mono ?_
  rintro e w1 ⟨bs, A, c, rfl, hS, hk1, hbs, hAb⟩
  have hq := eq_nilSeq w1 (.func 42) #[] #[.pointer (some ⟨bs, 0, Option.none⟩)]
  have hC1 := hC.grew hk1
  have hs0 := k0.size
  have hs1 := hk1.size
  have hcl := hC1.lt
  have hsz := World.size_alloc w (.cells #[.slice Option.none 0 0] 39)
  gi_wp2
  refine range_good (F := Fence.wide) rfl (by omega) (gf := 42) (lb := #[.pointer (some ⟨bs, 0, Option.none⟩)]) rfl trivial (enters_of Try.func42 (by kernel_rfl) rfl)
    (under1_seq 5 (by omega) bs A c L (by omega) hz) (fun _ => rfl) w1.heap.size rfl
    (LI w1 w.heap.size)
    (fun _ _ _ => False) (fun b => b = w.heap.size ∨ w1.heap.size + 2 ≤ b) ⟨fun e => by omega, fun e => by omega⟩
    ?_ (fun _ _ _ _ h _ => h)
    (fun X Y h hk => hS.beside h hk (fun b e => .inl (by simp only [One] at e; omega))) ⟨⟨_, hC1, World.ownsRow_nil _ _ _ _⟩, fun x hx => (by cases hx), .nil, Keeps.refl _ _⟩ hS
    (fun x => #[.pointer (some ⟨g, 0, Option.none⟩), undef, .slice Option.none 0 0, .bool false, .pointer (some ⟨w.heap.size, 0, Option.none⟩), (.func (.func 42) #[] #[.pointer (some ⟨bs, 0, Option.none⟩)]), undef, .pointer (some ⟨g, 0, Option.none⟩), (.func (.func 42) #[] #[.pointer (some ⟨bs, 0, Option.none⟩)]), (.func (.func 42) #[] #[.pointer (some ⟨bs, 0, Option.none⟩)]), .bool false, (.func (.func 42) #[] #[.pointer (some ⟨bs, 0, Option.none⟩)]), x.1.val, undef, undef, undef, undef, undef]) (fun x => by simp [encsU]) ?_ ?_ ?_
  · rintro pre X Y ⟨⟨u, hb, hr⟩, hbs', hp, hK⟩ hk
    refine ⟨⟨u, hb.keeps hk (fun e => by simp only [One] at e; omega), owns_keeps hr hk (fun b hb e => by have := (World.ownsRow.lt hr b hb).1; simp only [One] at e; omega)⟩, fun x hx => (hbs' x hx).keeps hk (fun b hb e => by have := ((hbs' x hx).lt b hb).1; simp only [One] at e; omega), hp, hK.andThen hk (fun i hi e => by simp only [One] at e; omega)⟩
  · rintro pre ⟨⟨⟨f1, f2⟩, ct, ⟨t1, t2⟩, dv⟩, zs⟩ W0 W ⟨⟨u, hb0, hr0⟩, hbs0, hp0, hK0⟩ hk0' ⟨hG, hcore⟩ hSt hlen hlt
    obtain ⟨Au, cu, rfl⟩ := owns_slice hr0
    obtain ⟨Ax, cx, rfl⟩ : ∃ A c, dv = .slice A zs.length c := hG.slice
    have HCO := Lib.hid hcore
    clear hcore
    simp only [Pk.val]
    have hY0 := Blk.new W 33 [.bool false, .int .i64 0, .int .i64 0, .bool false, .int .i64 0, .slice Option.none 0 0]
    have kY := (Keeps.refl None W).alloc (.cells #[.bool false, .int .i64 0, .int .i64 0, .bool false, .int .i64 0, .slice Option.none 0 0] 33)
    have hsW := hk0'.size
    gi_wp2_with (first
      | (with_reducible refine wpListIn_store_pk rfl (.tmp 6) (.tmp 12) rfl W.heap.size ⟨(f1, f2), ct, (t1, t2), .slice Ax zs.length cx⟩ rfl rfl rfl _ hY0 rfl ?_; intro wa hBa hka))
    have kWa : Keeps None W wa := kY.andThen hka (fun i hi e => by simp only [One] at e; omega)
    refine ⟨kWa, fun w2 hkw2 => ?_⟩
    have kW0a := hk0'.trans kWa
    have hW2 : ∀ b, b ≠ w1.heap.size + 1 → ¬ One (w1.heap.size + 1) b := fun b hb e => hb e
    have hb2 := (hb0.grew kW0a).keeps hkw2 (hW2 _ (by omega))
    have hr2 := owns_keeps (owns_grew hr0 kW0a) hkw2 (fun b hb e => by have := (World.ownsRow.lt hr0 b hb).1; simp only [One] at e; omega)
    have hBa2 := hBa.keeps hkw2 (hW2 _ (by omega))
    have hSt2 := hS.beside (hSt.grew kWa) hkw2 (fun b e => .inl (by simp only [One] at e; omega))
    have hs2 := hkw2.size
    have hsa := kWa.size
    have c4 := hb2.cell 0 _ rfl
    have hbn := Blk.new w2 33 [.bool f1, .int .i64 f2, .int .i64 ct, .bool t1, .int .i64 t2, .slice Ax zs.length cx]
    have kn := (Keeps.refl None w2).alloc (.cells #[.bool f1, .int .i64 f2, .int .i64 ct, .bool t1, .int .i64 t2, .slice Ax zs.length cx] 33)
    gi_wp2_with (first
      | (with_reducible refine wpListIn_load_pk rfl (.tmp 6) rfl W.heap.size 0 ⟨(f1, f2), ct, (t1, t2), .slice Ax zs.length cx⟩ rfl hBa2.pk ?_; simp only [Pk.val])
      | (gi_at_builtin; refine wpListIn_append_row _ rfl (.tmp 13) (.tmp 15) 39 rfl (w1.heap.size + 2) 33 i0 _ 6 64 Try.underlying39 hi hz0 hz1 hz2 rfl (by decide) (.slice Au pre.length cu) pre.length (Way.cells pre) rfl (owns_grew hr2 kn) (some ⟨w2.heap.size, 0, Option.none⟩) 1 1 [.bool f1, .int .i64 f2, .int .i64 ct, .bool t1, .int .i64 t2, .slice Ax zs.length cx] rfl rfl (fun e => by cases e) (src_cells hbn) (Pk.cells_one (p := ⟨(f1, f2), ct, (t1, t2), .slice Ax zs.length cx⟩) rfl) (by unfold maxLen; omega) (by omega) (by have := kn.size; omega) ?_; intro v5 w5 hown5 hk5 hloc5; obtain ⟨A5, c5, rfl⟩ := owns_slice hown5; have hb5 := (hb2.grew kn).keeps hk5 (fun e => by have := (World.ownsRow.lt hr2 _ e).1; omega); have f5 := hb5.free 0; have c5' := hb5.cell 0 _ rfl))
    have ks : Keeps (One w.heap.size) w5 (w5.setCell ⟨w.heap.size, 0, Option.none⟩ (.slice A5 (pre.length + 1) c5)) := (Keeps.refl _ _).setCell _ _ (fun _ => rfl)
    have hvlt := World.ownsRow.lt hr2
    have kall : Keeps (fun b => b = w.heap.size ∨ w1.heap.size + 2 ≤ b) w2 (w5.setCell ⟨w.heap.size, 0, Option.none⟩ (.slice A5 (pre.length + 1) c5)) :=
      (kn.of_none.andThen hk5 (fun i _ e => .inr (hvlt i e).1)).andThen ks (fun _ _ e => .inl e)
    have hG2 : Row .u8 5 w2 (w1.heap.size + 2) (.slice Ax zs.length cx) zs := ((hG.down (by omega)).grew kWa).keeps hkw2 (fun b hb e => by have := (hG.lt b hb).1; simp only [One] at e; omega)
    have hold : ∀ y ∈ pre, Row .u8 5 w2 (w1.heap.size + 2) y.1.dv y.2 := fun y hy => ((hbs0 y hy).grew kW0a).keeps hkw2 (fun b hb e => by have := ((hbs0 y hy).lt b hb).1; simp only [One] at e; omega)
    have step : ∀ (u : Value) (ys : List Int), Row .u8 5 w2 (w1.heap.size + 2) u ys → Row .u8 5 (w5.setCell ⟨w.heap.size, 0, Option.none⟩ (.slice A5 (pre.length + 1) c5)) (w1.heap.size + 2) u ys := fun u ys h =>
      ((h.grew kn).keeps hk5 (fun b hb e => rows_apart h.raw hr2 (by decide) hb e)).keeps ks (fun b hb e => by have := (h.lt b hb).1; simp only [One] at e; omega)
    have hb6 := hb5.set 0 (.slice A5 (pre.length + 1) c5)
    refine ⟨kall, hS.beside hSt2 kall (fun b e => e.elim (fun e => .inr ⟨fun e2 => ?_, fun o => ⟨fun y hy => ?_, fun y hy => ?_⟩⟩) (fun e => .inl (by omega))), ⟨_, hb6, ?_⟩, fun y hy => ?_, ?_, ?_⟩
    · omega
    · subst e
      have := hb2.only hy
      match o, this with
      | 0, h => cases h
      | o + 1, h => cases h
    · subst e
      have := hb2.only hy
      match o, this with
      | 0, h => cases h
      | o + 1, h => cases h
    · have h5 := owns_keeps hown5 ks (fun b hb e => by
        simp only [One] at e
        rcases hloc5 with h | h
        · have := (hvlt b (h ▸ hb)).1; omega
        · rw [hb] at h; have := Option.some.inj h; have := kn.size; omega)
      rw [Way.cells_append]
      simpa [Way.cells, Pk.cells] using h5
    · rcases List.mem_append.1 hy with h | h
      · exact step _ _ (hold y h)
      · obtain rfl := List.mem_singleton.1 h
        exact step _ _ hG2
    · refine List.pairwise_append.2 ⟨hp0, List.pairwise_singleton _ _, fun y hy z hz b hb e => ?_⟩
      obtain rfl := List.mem_singleton.1 hz
      have := ((hbs0 y hy).lt b hb).2
      have := (hG.lt b e).1
      omega
    · refine (((hK0.andThen hk0' (fun _ _ f => f.elim)).andThen kWa (fun _ _ f => f.elim)).andThen hkw2 (fun i hi e => by simp only [One] at e; omega)).andThen kall (fun _ _ e => e)
  · rintro xs W hSf ⟨⟨u, hb, hr⟩, hbs', hp, hK⟩ hD
    obtain ⟨Au, cu, rfl⟩ := owns_slice hr
    have c0 := hb.cell 0 _ rfl
    have HSf := Lib.hid hSf
    clear hSf
    gi_wp2
    refine ⟨by simp, .inl ⟨_, _, rfl, run_takeDeferred hD, ?_⟩⟩
    refine ⟨_, results_tmp2 rfl _ _ _, _, xs, rfl, ?_, ?_⟩
    · have kp : Keeps (One w1.heap.size) W (W.putObj w1.heap.size (.deferred Option.none)) := keeps_putObj _ _ _
      refine ⟨HSf.out, ?_, fun y hy => ?_, hp⟩
      · exact owns_base (owns_keeps hr kp (fun b hb e => by have := (World.ownsRow.lt hr b hb).1; simp only [One] at e; omega)) (fun b hb => by have := (World.ownsRow.lt hr b hb).1; omega)
      · exact ((hbs' y hy).keeps kp (fun b hb e => by have := ((hbs' y hy).lt b hb).1; simp only [One] at e; omega)).down (by omega)
    · refine (((k0.trans hk1).andThen hK ?_).andThen (keeps_putObj _ _ _) ?_)
      · intro i hi e
        rcases e with e | e <;> omega
      · intro i hi e
        simp only [One] at e
        omega
  · rintro c pre W _ h _
    exact h.elim
end Go.Proofs.Ytcplogdaepmpnaa
