/- LendMsg: the message in memory of its own. -/
import Derived.Test.YtcihfjfbcfgidaaNear
namespace Go.Proofs.Ytcihfjfbcfgidaa
open Go.RowKit Go.Maps Go.Proofs.YtcihfjfbcfgidaaW.PrintLast
set_option linter.unusedVariables false

theorem infoEnt : (Try.prog.info? 43).map (fun i => (i.zero, i.size, i.bytes)) = some (some (.agg #[.string ⟨#[]⟩, .int .i64 0, .int .i64 0, .int .i64 0]), 4, 40) := by kernel_rfl
theorem infoLas : (Try.prog.info? 133).map (fun i => (i.zero, i.size, i.bytes)) = some (some (.agg #[.int .i64 0, .int .i64 0, .int .i64 0, .int .i64 0, .int .i64 0, .int .i64 0, .int .i64 0]), 7, 56) := by kernel_rfl
theorem infoCom : (Try.prog.info? 60).map (fun i => (i.zero, i.size, i.bytes)) = some (some (.agg #[.int .i64 0, .int .i64 0, .int .i64 0, .string ⟨#[]⟩, .int .i64 0, .int .i64 0, .int .i64 0, .int .i64 0, .int .i64 0]), 9, 80) := by kernel_rfl

theorem flat_at {sz : Nat} : ∀ (rows : List (List Value)), (∀ r ∈ rows, r.length = sz) → 0 < sz → ∀ (k : Nat) u, rows.flatten[k]? = some u → ∃ j i r, k = j * sz + i ∧ rows[j]? = some r ∧ r[i]? = some u
  | [], _, _, k, u, e => by simp at e
  | r :: rows, h, h0, k, u, e => by
    have hr := h r (List.mem_cons_self ..)
    rw [List.flatten_cons] at e
    by_cases hk : k < r.length
    · rw [List.getElem?_append_left hk] at e
      exact ⟨0, k, r, by omega, rfl, e⟩
    · rw [List.getElem?_append_right (by omega)] at e
      obtain ⟨j, i, r', e1, e2, e3⟩ := flat_at rows (fun x hx => h x (List.mem_cons_of_mem _ hx)) h0 _ u e
      exact ⟨j + 1, i, r', by rw [Nat.succ_mul]; omega, by simpa using e2, e3⟩
theorem flat_len {sz : Nat} : ∀ (rows : List (List Value)), (∀ r ∈ rows, r.length = sz) → rows.flatten.length = rows.length * sz
  | [], _ => by simp
  | r :: rows, h => by
    rw [List.flatten_cons, List.length_append, flat_len rows (fun x hx => h x (List.mem_cons_of_mem _ hx)), h r (List.mem_cons_self ..), List.length_cons, Nat.succ_mul]
    omega
theorem flat_get {sz : Nat} : ∀ (rows : List (List Value)), (∀ r ∈ rows, r.length = sz) → ∀ (j i : Nat) r u, rows[j]? = some r → r[i]? = some u → rows.flatten[j * sz + i]? = some u
  | [], _, j, i, r, u, e, _ => by simp at e
  | r0 :: rows, h, j, i, r, u, e, e2 => by
    have hr := h r0 (List.mem_cons_self ..)
    rw [List.flatten_cons]
    cases j with
    | zero =>
      simp at e
      subst e
      rw [List.getElem?_append_left (by have := (List.getElem?_eq_some_iff.1 e2).1; omega), Nat.zero_mul, Nat.zero_add]
      exact e2
    | succ j =>
      rw [List.getElem?_append_right (by rw [Nat.succ_mul]; omega), hr, show (j + 1) * sz + i - sz = j * sz + i by rw [Nat.succ_mul]; omega]
      exact flat_get rows (fun x hx => h x (List.mem_cons_of_mem _ hx)) j i r u (by simpa using e) e2

theorem Ent.rows (l : List Ent) : ∀ r ∈ l.map Ent.cells, r.length = 4 := fun r hr => by
  obtain ⟨x, _, rfl⟩ := List.mem_map.1 hr
  rfl
theorem Ent.one (l : List Ent) : ∀ u ∈ (l.map Ent.cells).flatten, u.oneCell' = true := fun u hu => by
  obtain ⟨r, hr, hu⟩ := List.mem_flatten.1 hu
  obtain ⟨x, _, rfl⟩ := List.mem_map.1 hr
  simp only [Ent.cells, List.mem_cons, List.not_mem_nil, or_false] at hu
  rcases hu with rfl | rfl | rfl | rfl <;> rfl
theorem Ent.len (l : List Ent) : (l.map Ent.cells).flatten.length = l.length * 4 := by rw [flat_len _ (Ent.rows l), List.length_map]
theorem Ents.src {w : World} {A : Option Addr} {l : List Ent} (h : Ents w A l) : 0 < (l.map Ent.cells).flatten.length → ∃ ad, A = some ad ∧ ∀ j u, (l.map Ent.cells).flatten[j]? = some u → w.cell? (ad.add j) = some u := fun h0 => by
  rw [Ent.len] at h0
  obtain ⟨x, hx⟩ : ∃ x, l[0]? = some x := ⟨_, List.getElem?_eq_getElem (by omega)⟩
  obtain ⟨b, o, rfl, -⟩ := h 0 x hx
  refine ⟨_, rfl, fun k u hu => ?_⟩
  obtain ⟨j, i, r, rfl, h1, h2⟩ := flat_at _ (Ent.rows l) (by omega) k u hu
  rw [List.getElem?_map] at h1
  obtain ⟨y, hy, rfl⟩ := Option.map_eq_some_iff.1 h1
  obtain ⟨b', o', e, hc⟩ := h j y hy
  cases e
  rw [Addr.add_lit, ← Nat.add_assoc]
  exact hc i u h2
theorem Ents.own {w : World} {base : Nat} {A : Option Addr} {c : Nat} {l : List Ent} (h : w.ownsRow base 43 4 (.slice A l.length c) l.length (l.map Ent.cells).flatten) : Ents w A l := fun j x hx => by
  have hj := (List.getElem?_eq_some_iff.1 hx).1
  rcases h.2 with ⟨e, h0⟩ | ⟨g, cap, cur, e, hb, hg, hn, hc, hs, ht⟩
  · omega
  · cases e
    refine ⟨g, 0, rfl, fun i v hv => ?_⟩
    rw [cell_of_row w g _ cur _ (0, 0) hg]
    have hi : i < 4 := by have := (List.getElem?_eq_some_iff.1 hv).1; simpa [Ent.cells] using this
    have e1 := flat_get _ (Ent.rows l) j i x.cells v (by rw [List.getElem?_map, hx]; rfl) hv
    rw [← ht, List.getElem?_take, if_pos (by omega), Array.getElem?_toList] at e1
    rw [Nat.zero_add]
    exact e1

theorem Las.rows (l : List Las) : ∀ r ∈ l.map Las.cells, r.length = 7 := fun r hr => by
  obtain ⟨x, _, rfl⟩ := List.mem_map.1 hr
  rfl
theorem Las.one (l : List Las) : ∀ u ∈ (l.map Las.cells).flatten, u.oneCell' = true := fun u hu => by
  obtain ⟨r, hr, hu⟩ := List.mem_flatten.1 hu
  obtain ⟨x, _, rfl⟩ := List.mem_map.1 hr
  simp only [Las.cells, List.mem_cons, List.not_mem_nil, or_false] at hu
  rcases hu with rfl | rfl | rfl | rfl | rfl | rfl | rfl <;> rfl
theorem Las.len (l : List Las) : (l.map Las.cells).flatten.length = l.length * 7 := by rw [flat_len _ (Las.rows l), List.length_map]
theorem Lass.src {w : World} {A : Option Addr} {l : List Las} (h : Lass w A l) : 0 < (l.map Las.cells).flatten.length → ∃ ad, A = some ad ∧ ∀ j u, (l.map Las.cells).flatten[j]? = some u → w.cell? (ad.add j) = some u := fun h0 => by
  rw [Las.len] at h0
  obtain ⟨x, hx⟩ : ∃ x, l[0]? = some x := ⟨_, List.getElem?_eq_getElem (by omega)⟩
  obtain ⟨b, o, rfl, -⟩ := h 0 x hx
  refine ⟨_, rfl, fun k u hu => ?_⟩
  obtain ⟨j, i, r, rfl, h1, h2⟩ := flat_at _ (Las.rows l) (by omega) k u hu
  rw [List.getElem?_map] at h1
  obtain ⟨y, hy, rfl⟩ := Option.map_eq_some_iff.1 h1
  obtain ⟨b', o', e, hc⟩ := h j y hy
  cases e
  rw [Addr.add_lit, ← Nat.add_assoc]
  exact hc i u h2
theorem Lass.own {w : World} {base : Nat} {A : Option Addr} {c : Nat} {l : List Las} (h : w.ownsRow base 133 7 (.slice A l.length c) l.length (l.map Las.cells).flatten) : Lass w A l := fun j x hx => by
  have hj := (List.getElem?_eq_some_iff.1 hx).1
  rcases h.2 with ⟨e, h0⟩ | ⟨g, cap, cur, e, hb, hg, hn, hc, hs, ht⟩
  · omega
  · cases e
    refine ⟨g, 0, rfl, fun i v hv => ?_⟩
    rw [cell_of_row w g _ cur _ (0, 0) hg]
    have hi : i < 7 := by have := (List.getElem?_eq_some_iff.1 hv).1; simpa [Las.cells] using this
    have e1 := flat_get _ (Las.rows l) j i x.cells v (by rw [List.getElem?_map, hx]; rfl) hv
    rw [← ht, List.getElem?_take, if_pos (by omega), Array.getElem?_toList] at e1
    rw [Nat.zero_add]
    exact e1

theorem Com.rows (l : List Com) : ∀ r ∈ l.map Com.cells, r.length = 9 := fun r hr => by
  obtain ⟨x, _, rfl⟩ := List.mem_map.1 hr
  rfl
theorem Com.one (l : List Com) : ∀ u ∈ (l.map Com.cells).flatten, u.oneCell' = true := fun u hu => by
  obtain ⟨r, hr, hu⟩ := List.mem_flatten.1 hu
  obtain ⟨x, _, rfl⟩ := List.mem_map.1 hr
  simp only [Com.cells, List.mem_cons, List.not_mem_nil, or_false] at hu
  rcases hu with rfl | rfl | rfl | rfl | rfl | rfl | rfl | rfl | rfl <;> rfl
theorem Com.len (l : List Com) : (l.map Com.cells).flatten.length = l.length * 9 := by rw [flat_len _ (Com.rows l), List.length_map]
theorem Coms.src {w : World} {A : Option Addr} {l : List Com} (h : Coms w A l) : 0 < (l.map Com.cells).flatten.length → ∃ ad, A = some ad ∧ ∀ j u, (l.map Com.cells).flatten[j]? = some u → w.cell? (ad.add j) = some u := fun h0 => by
  rw [Com.len] at h0
  obtain ⟨x, hx⟩ : ∃ x, l[0]? = some x := ⟨_, List.getElem?_eq_getElem (by omega)⟩
  obtain ⟨b, o, rfl, -⟩ := h 0 x hx
  refine ⟨_, rfl, fun k u hu => ?_⟩
  obtain ⟨j, i, r, rfl, h1, h2⟩ := flat_at _ (Com.rows l) (by omega) k u hu
  rw [List.getElem?_map] at h1
  obtain ⟨y, hy, rfl⟩ := Option.map_eq_some_iff.1 h1
  obtain ⟨b', o', e, hc⟩ := h j y hy
  cases e
  rw [Addr.add_lit, ← Nat.add_assoc]
  exact hc i u h2
theorem Coms.own {w : World} {base : Nat} {A : Option Addr} {c : Nat} {l : List Com} (h : w.ownsRow base 60 9 (.slice A l.length c) l.length (l.map Com.cells).flatten) : Coms w A l := fun j x hx => by
  have hj := (List.getElem?_eq_some_iff.1 hx).1
  rcases h.2 with ⟨e, h0⟩ | ⟨g, cap, cur, e, hb, hg, hn, hc, hs, ht⟩
  · omega
  · cases e
    refine ⟨g, 0, rfl, fun i v hv => ?_⟩
    rw [cell_of_row w g _ cur _ (0, 0) hg]
    have hi : i < 9 := by have := (List.getElem?_eq_some_iff.1 hv).1; simpa [Com.cells] using this
    have e1 := flat_get _ (Com.rows l) j i x.cells v (by rw [List.getElem?_map, hx]; rfl) hv
    rw [← ht, List.getElem?_take, if_pos (by omega), Array.getElem?_toList] at e1
    rw [Nat.zero_add]
    exact e1

theorem owns_empty {w : World} {base b t sz : Nat} (h : Blk w b t []) (hb : base ≤ b) : w.ownsRow base t sz (.slice (some ⟨b, 0, Option.none⟩) 0 0) 0 [] :=
  ⟨by simp, .inr ⟨b, 0, #[], rfl, hb, h.raw, Nat.le_refl _, by unfold maxLen; simp, by simp, by simp⟩⟩
/-- What LendMsg hands back. -/
def Lent7 (w : World) (zs : List Int) (el : List Ent) (ll : List Las) (dl : List Com) (mk : Nat → Option Addr → Nat → Option Addr → Nat → Option Addr → Nat → List Value) (e : Ending) (w' : World) : Prop :=
  ∃ gl E' ec' L' lc' D' dc' n1 n2 n3, e = .returned (.agg (mk gl E' ec' L' lc' D' dc').toArray) ∧ w.heap.size ≤ gl ∧ gl < n1 ∧ n1 ≤ n2 ∧ n2 ≤ n3 ∧ Blk w' gl 5 (lentCells zs 5) ∧
    w'.ownsRow n1 43 4 (.slice E' el.length ec') el.length (el.map Ent.cells).flatten ∧ (∀ b, (Value.slice E' el.length ec').ownBlock = some b → b < n2) ∧
    w'.ownsRow n2 133 7 (.slice L' ll.length lc') ll.length (ll.map Las.cells).flatten ∧ (∀ b, (Value.slice L' ll.length lc').ownBlock = some b → b < n3) ∧
    w'.ownsRow n3 60 9 (.slice D' dl.length dc') dl.length (dl.map Com.cells).flatten ∧ Keeps None w w'

set_option maxRecDepth 100000 in
set_option maxHeartbeats 6400000 in
theorem lendmsg_any (kind : Int) (fc : Bool) (fi : Int) (tc : Bool) (ti op rd q0 q1 q2 q3 s1 s2 h1 h2 : Int) (A : Option Addr) (cap : Nat) (zs : List Int) (c0 c1 c2 : Int) (nm : ByteArray) (c3 c4 c5 c6 c7 up : Int) (E : Option Addr) (ec : Nat) (el : List Ent) (L : Option Addr) (lc : Nat) (ll : List Las) (D : Option Addr) (dc : Nat) (dl : List Com) (more : Bool) (w : World) (hA : Nums .u8 w A zs) (hz : zs.length ≤ 140737488351232) (hE : Ents w E el) (hEn : E = Option.none → ec = 0) (he : el.length * 40 ≤ 140737488351232) (hL : Lass w L ll) (hLn : L = Option.none → lc = 0) (hl : ll.length * 56 ≤ 140737488351232) (hD : Coms w D dl) (hDn : D = Option.none → dc = 0) (hd : dl.length * 80 ≤ 140737488351232) :
    Calls Try.prog 43 #[.agg #[.int .i64 kind, .bool fc, .int .i64 fi, .bool tc, .int .i64 ti, .int .i64 op, .int .i64 rd, .int .i64 q0, .int .i64 q1, .int .i64 q2, .int .i64 q3, .int .i64 s1, .int .i64 s2, .int .i64 h1, .int .i64 h2, .slice A zs.length cap, .int .i64 c0, .int .i64 c1, .int .i64 c2, .string nm, .int .i64 c3, .int .i64 c4, .int .i64 c5, .int .i64 c6, .int .i64 c7, .int .i64 up, .slice E el.length ec, .slice L ll.length lc, .slice D dl.length dc, .bool more]] w (Lent7 w zs el ll dl fun gl E' ec' L' lc' D' dc' => [.int .i64 kind, .bool fc, .int .i64 fi, .bool tc, .int .i64 ti, .int .i64 op, .int .i64 rd, .int .i64 q0, .int .i64 q1, .int .i64 q2, .int .i64 q3, .int .i64 s1, .int .i64 s2, .int .i64 h1, .int .i64 h2, .slice (some ⟨gl, 0, Option.none⟩) zs.length (zs.length + 5), .int .i64 c0, .int .i64 c1, .int .i64 c2, .string nm, .int .i64 c3, .int .i64 c4, .int .i64 c5, .int .i64 c6, .int .i64 c7, .int .i64 up, .slice E' el.length ec', .slice L' ll.length lc', .slice D' dl.length dc', .bool more]) := by
  obtain ⟨x, hx⟩ : ∃ x, x = w.heap.size := ⟨_, rfl⟩
  obtain ⟨z, hz0⟩ : ∃ z, z = w.heap.size + 1 := ⟨_, rfl⟩
  obtain ⟨Wa, hWa⟩ : ∃ W, W = w.alloc (.cells #[.int .i64 kind, .bool fc, .int .i64 fi, .bool tc, .int .i64 ti, .int .i64 op, .int .i64 rd, .int .i64 q0, .int .i64 q1, .int .i64 q2, .int .i64 q3, .int .i64 s1, .int .i64 s2, .int .i64 h1, .int .i64 h2, .slice A zs.length cap, .int .i64 c0, .int .i64 c1, .int .i64 c2, .string nm, .int .i64 c3, .int .i64 c4, .int .i64 c5, .int .i64 c6, .int .i64 c7, .int .i64 up, .slice E el.length ec, .slice L ll.length lc, .slice D dl.length dc, .bool more] 66) := ⟨_, rfl⟩
  obtain ⟨W1, hW1⟩ : ∃ W, W = Wa.alloc (.cells (msgL 0 false 0 false 0 0 0 0 0 0 0 0 0 (.slice Option.none 0 0)).toArray 66) := ⟨_, rfl⟩
  have ka : Keeps None w Wa := by rw [hWa]; exact (Keeps.refl _ _).alloc _
  have kb : Keeps None Wa W1 := by rw [hW1]; exact (Keeps.refl _ _).alloc _
  have hsa : Wa.heap.size = z := by rw [hWa, hz0, World.size_alloc]
  have hX : Blk W1 x 66 [.int .i64 kind, .bool fc, .int .i64 fi, .bool tc, .int .i64 ti, .int .i64 op, .int .i64 rd, .int .i64 q0, .int .i64 q1, .int .i64 q2, .int .i64 q3, .int .i64 s1, .int .i64 s2, .int .i64 h1, .int .i64 h2, .slice A zs.length cap, .int .i64 c0, .int .i64 c1, .int .i64 c2, .string nm, .int .i64 c3, .int .i64 c4, .int .i64 c5, .int .i64 c6, .int .i64 c7, .int .i64 up, .slice E el.length ec, .slice L ll.length lc, .slice D dl.length dc, .bool more] := by
    have : Blk Wa x 66 [.int .i64 kind, .bool fc, .int .i64 fi, .bool tc, .int .i64 ti, .int .i64 op, .int .i64 rd, .int .i64 q0, .int .i64 q1, .int .i64 q2, .int .i64 q3, .int .i64 s1, .int .i64 s2, .int .i64 h1, .int .i64 h2, .slice A zs.length cap, .int .i64 c0, .int .i64 c1, .int .i64 c2, .string nm, .int .i64 c3, .int .i64 c4, .int .i64 c5, .int .i64 c6, .int .i64 c7, .int .i64 up, .slice E el.length ec, .slice L ll.length lc, .slice D dl.length dc, .bool more] := by rw [hWa, hx]; exact Blk.new _ _ _
    exact this.grew kb
  have hZ : Blk W1 z 66 (msgL 0 false 0 false 0 0 0 0 0 0 0 0 0 (.slice Option.none 0 0)) := by rw [hW1, ← hsa]; exact Blk.new _ _ _
  have kw1 := ka.trans kb
  have hxz : x ≠ z := by omega
  have hxge : w.heap.size ≤ x := by omega
  have hzge : w.heap.size ≤ z := by omega
  have hxl := hX.lt
  have hzl := hZ.lt
  have x15 := hX.cell 15 _ rfl
  have g15 := hX.free 15
  simp only [msgL] at hW1
  go_enter Try.func43, Try.ntmps43
  go_upto_region 1 with (fail)
  rw [← hWa, ← hW1, ← hz0, ← hx]
  clear hWa hW1 hx hz0 hsa ka kb
  go_wp2_with fail
  refine (lend_any A zs.length cap zs W1 (hA.grew kw1) rfl (by omega)).mono ?_
  rintro e w2 ⟨gl, rfl, hgl, hG2, hk2⟩
  have hX2 := hX.grew hk2
  have hZ2 := hZ.grew hk2
  have x15 := hX2.cell 15 _ rfl
  have g15 := hX2.free 15
  clear hX hZ
  go_upto_region 2 with (fail)
  have hX3 : Blk (w2.setCell ⟨x, 15, Option.none⟩ (.slice (some ⟨gl, 0, Option.none⟩) zs.length (zs.length + 5))) x 66 [.int .i64 kind, .bool fc, .int .i64 fi, .bool tc, .int .i64 ti, .int .i64 op, .int .i64 rd, .int .i64 q0, .int .i64 q1, .int .i64 q2, .int .i64 q3, .int .i64 s1, .int .i64 s2, .int .i64 h1, .int .i64 h2, .slice (some ⟨gl, 0, Option.none⟩) zs.length (zs.length + 5), .int .i64 c0, .int .i64 c1, .int .i64 c2, .string nm, .int .i64 c3, .int .i64 c4, .int .i64 c5, .int .i64 c6, .int .i64 c7, .int .i64 up, .slice E el.length ec, .slice L ll.length lc, .slice D dl.length dc, .bool more] := hX2.set 15 (.slice (some ⟨gl, 0, Option.none⟩) zs.length (zs.length + 5))
  have k3 : Keeps (One x) w2 (w2.setCell ⟨x, 15, Option.none⟩ (.slice (some ⟨gl, 0, Option.none⟩) zs.length (zs.length + 5))) := (Keeps.refl (One x) w2).setCell ⟨x, 15, Option.none⟩ _ (fun _ => rfl)
  obtain ⟨W3, hW3⟩ : ∃ W, W = w2.setCell ⟨x, 15, Option.none⟩ (.slice (some ⟨gl, 0, Option.none⟩) zs.length (zs.length + 5)) := ⟨_, rfl⟩
  have hsz3a : W3.heap.size ≤ w2.heap.size := by rw [hW3]; simp
  have hsz3b : w2.heap.size ≤ W3.heap.size := by rw [hW3]; simp
  rw [← hW3] at hX3 k3
  rw [← hW3]
  have hs2 := hk2.size
  have hG3 := hG2.keeps k3 (fun f => by simp only [One] at f; omega)
  have hgl3 := hG3.lt
  have hZ3 := hZ2.keeps k3 (fun f => hxz f.symm)
  have kw3 : Keeps None w W3 := (kw1.trans hk2).andThen k3 (fun i hi e => by simp only [One] at e; omega)
  clear hW3 x15 g15 hX2 hG2 hZ2 k3

  obtain ⟨i3, hi3, hq3, hr3, ht3⟩ := info_parts infoEnt
  have hE3 := Blk.new W3 43 []
  have hO3 : (W3.alloc (.cells #[] 43)).ownsRow W3.heap.size 43 4 (.slice (some ⟨W3.heap.size, 0, Option.none⟩) 0 0) 0 [] := owns_empty hE3 (Nat.le_refl _)
  have kE3 : Keeps None W3 (W3.alloc (.cells #[] 43)) := (Keeps.refl _ _).alloc _
  have hS3 := (hE.grew kw3).grew kE3
  have c30 := hX3.cell 26 _ rfl
  have hxl3 : x < W3.heap.size := hX3.lt
  go_upto_region 3 with (at_builtin; refine wpList_append_row _ rfl (.tmp 7) (.tmp 10) 44 rfl W3.heap.size 43 i3 _ 4 40 Try.underlying44 hi3 hq3 hr3 ht3 rfl (by decide) _ 0 [] rfl hO3 E el.length ec (el.map Ent.cells).flatten rfl (Ent.len el) hEn hS3.src (Ent.one el) (by unfold maxLen; omega) (by omega) (by simp only [World.size_alloc]; omega) ?_; intro v3 y3 hown3 hka3 hloc3; obtain ⟨E', ec', ev3⟩ := owns_slice hown3; obtain rfl : v3 = .slice E' el.length ec' := ev3.trans (by rw [Nat.zero_add]); have hkn3 : Keeps None W3 y3 := kE3.andThen hka3 (fun i hi e => by have := OwnB.is e; omega); have d30 := (hX3.grew hkn3).cell 26 _ rfl; have d31 := (hX3.grew hkn3).free 26; clear ev3 hloc3 hka3)
  rw [Nat.zero_add, List.nil_append] at hown3
  have hX3' := hX3.grew hkn3
  have hX4 : Blk (y3.setCell ⟨x, 26, Option.none⟩ (.slice E' el.length ec')) x 66 [.int .i64 kind, .bool fc, .int .i64 fi, .bool tc, .int .i64 ti, .int .i64 op, .int .i64 rd, .int .i64 q0, .int .i64 q1, .int .i64 q2, .int .i64 q3, .int .i64 s1, .int .i64 s2, .int .i64 h1, .int .i64 h2, .slice (some ⟨gl, 0, Option.none⟩) zs.length (zs.length + 5), .int .i64 c0, .int .i64 c1, .int .i64 c2, .string nm, .int .i64 c3, .int .i64 c4, .int .i64 c5, .int .i64 c6, .int .i64 c7, .int .i64 up, .slice E' el.length ec', .slice L ll.length lc, .slice D dl.length dc, .bool more] := hX3'.set 26 (.slice E' el.length ec')
  have ks3 : Keeps (One x) y3 (y3.setCell ⟨x, 26, Option.none⟩ (.slice E' el.length ec')) := (Keeps.refl (One x) y3).setCell ⟨x, 26, Option.none⟩ _ (fun _ => rfl)
  obtain ⟨W4, hW4⟩ : ∃ W, W = y3.setCell ⟨x, 26, Option.none⟩ (.slice E' el.length ec') := ⟨_, rfl⟩
  have hsz4a : W4.heap.size ≤ y3.heap.size := by rw [hW4]; simp
  have hsz4b : y3.heap.size ≤ W4.heap.size := by rw [hW4]; simp
  rw [← hW4] at hX4 ks3
  rw [← hW4]
  have hszk3 := hkn3.size
  have hlt3 := fun b (e : (Value.slice E' el.length ec').ownBlock = some b) => World.ownsRow.lt hown3 b e
  have hR3 := owns_keeps hown3 ks3 (fun b e f => by have := (World.ownsRow.lt hown3 b e).1; simp only [One] at f; omega)
  have kx3 : Keeps (One x) W3 W4 := hkn3.of_none.trans ks3
  have kw4 : Keeps None w W4 := kw3.andThen kx3 (fun i hi e => by simp only [One] at e; omega)
  have hG4 := hG3.keeps kx3 (fun f => by simp only [One] at f; omega)
  have hZ4 := hZ3.keeps kx3 (fun f => hxz f.symm)
  clear kx3
  have HLT3 := Lib.hid hlt3
  clear hlt3
  clear hE3 hO3 kE3 hS3 c30 d30 d31 hW4 hown3 hX3' hX3 hG3 hZ3 ks3 hkn3

  obtain ⟨i4, hi4, hq4, hr4, ht4⟩ := info_parts infoLas
  have hE4 := Blk.new W4 133 []
  have hO4 : (W4.alloc (.cells #[] 133)).ownsRow W4.heap.size 133 7 (.slice (some ⟨W4.heap.size, 0, Option.none⟩) 0 0) 0 [] := owns_empty hE4 (Nat.le_refl _)
  have kE4 : Keeps None W4 (W4.alloc (.cells #[] 133)) := (Keeps.refl _ _).alloc _
  have hS4 := (hL.grew kw4).grew kE4
  have c40 := hX4.cell 27 _ rfl
  have hxl4 : x < W4.heap.size := hX4.lt
  go_upto_region 4 with (at_builtin; refine wpList_append_row _ rfl (.tmp 14) (.tmp 17) 61 rfl W4.heap.size 133 i4 _ 7 56 Try.underlying61 hi4 hq4 hr4 ht4 rfl (by decide) _ 0 [] rfl hO4 L ll.length lc (ll.map Las.cells).flatten rfl (Las.len ll) hLn hS4.src (Las.one ll) (by unfold maxLen; omega) (by omega) (by simp only [World.size_alloc]; omega) ?_; intro v4 y4 hown4 hka4 hloc4; obtain ⟨L', lc', ev4⟩ := owns_slice hown4; obtain rfl : v4 = .slice L' ll.length lc' := ev4.trans (by rw [Nat.zero_add]); have hkn4 : Keeps None W4 y4 := kE4.andThen hka4 (fun i hi e => by have := OwnB.is e; omega); have d40 := (hX4.grew hkn4).cell 27 _ rfl; have d41 := (hX4.grew hkn4).free 27; clear ev4 hloc4 hka4)
  rw [Nat.zero_add, List.nil_append] at hown4
  have hX4' := hX4.grew hkn4
  have hX5 : Blk (y4.setCell ⟨x, 27, Option.none⟩ (.slice L' ll.length lc')) x 66 [.int .i64 kind, .bool fc, .int .i64 fi, .bool tc, .int .i64 ti, .int .i64 op, .int .i64 rd, .int .i64 q0, .int .i64 q1, .int .i64 q2, .int .i64 q3, .int .i64 s1, .int .i64 s2, .int .i64 h1, .int .i64 h2, .slice (some ⟨gl, 0, Option.none⟩) zs.length (zs.length + 5), .int .i64 c0, .int .i64 c1, .int .i64 c2, .string nm, .int .i64 c3, .int .i64 c4, .int .i64 c5, .int .i64 c6, .int .i64 c7, .int .i64 up, .slice E' el.length ec', .slice L' ll.length lc', .slice D dl.length dc, .bool more] := hX4'.set 27 (.slice L' ll.length lc')
  have ks4 : Keeps (One x) y4 (y4.setCell ⟨x, 27, Option.none⟩ (.slice L' ll.length lc')) := (Keeps.refl (One x) y4).setCell ⟨x, 27, Option.none⟩ _ (fun _ => rfl)
  obtain ⟨W5, hW5⟩ : ∃ W, W = y4.setCell ⟨x, 27, Option.none⟩ (.slice L' ll.length lc') := ⟨_, rfl⟩
  have hsz5a : W5.heap.size ≤ y4.heap.size := by rw [hW5]; simp
  have hsz5b : y4.heap.size ≤ W5.heap.size := by rw [hW5]; simp
  rw [← hW5] at hX5 ks4
  rw [← hW5]
  have hszk4 := hkn4.size
  have hlt4 := fun b (e : (Value.slice L' ll.length lc').ownBlock = some b) => World.ownsRow.lt hown4 b e
  have hR4 := owns_keeps hown4 ks4 (fun b e f => by have := (World.ownsRow.lt hown4 b e).1; simp only [One] at f; omega)
  have kx4 : Keeps (One x) W4 W5 := hkn4.of_none.trans ks4
  have kw5 : Keeps None w W5 := kw4.andThen kx4 (fun i hi e => by simp only [One] at e; omega)
  have hG5 := hG4.keeps kx4 (fun f => by simp only [One] at f; omega)
  have hZ5 := hZ4.keeps kx4 (fun f => hxz f.symm)
  have hR3 := owns_keeps hR3 kx4 (fun b e f => by have := (HLT3.out b e).1; simp only [One] at f; omega)
  clear kx4
  have HLT4 := Lib.hid hlt4
  clear hlt4
  clear hE4 hO4 kE4 hS4 c40 d40 d41 hW5 hown4 hX4' hX4 hG4 hZ4 ks4 hkn4

  obtain ⟨i5, hi5, hq5, hr5, ht5⟩ := info_parts infoCom
  have hE5 := Blk.new W5 60 []
  have hO5 : (W5.alloc (.cells #[] 60)).ownsRow W5.heap.size 60 9 (.slice (some ⟨W5.heap.size, 0, Option.none⟩) 0 0) 0 [] := owns_empty hE5 (Nat.le_refl _)
  have kE5 : Keeps None W5 (W5.alloc (.cells #[] 60)) := (Keeps.refl _ _).alloc _
  have hS5 := (hD.grew kw5).grew kE5
  have c50 := hX5.cell 28 _ rfl
  have hxl5 : x < W5.heap.size := hX5.lt
  go_upto_region 5 with (at_builtin; refine wpList_append_row _ rfl (.tmp 21) (.tmp 23) 64 rfl W5.heap.size 60 i5 _ 9 80 Try.underlying64 hi5 hq5 hr5 ht5 rfl (by decide) _ 0 [] rfl hO5 D dl.length dc (dl.map Com.cells).flatten rfl (Com.len dl) hDn hS5.src (Com.one dl) (by unfold maxLen; omega) (by omega) (by simp only [World.size_alloc]; omega) ?_; intro v5 y5 hown5 hka5 hloc5; obtain ⟨D', dc', ev5⟩ := owns_slice hown5; obtain rfl : v5 = .slice D' dl.length dc' := ev5.trans (by rw [Nat.zero_add]); have hkn5 : Keeps None W5 y5 := kE5.andThen hka5 (fun i hi e => by have := OwnB.is e; omega); have d50 := (hX5.grew hkn5).cell 28 _ rfl; have d51 := (hX5.grew hkn5).free 28; clear ev5 hloc5 hka5)
  rw [Nat.zero_add, List.nil_append] at hown5
  have hX5' := hX5.grew hkn5
  have hX6 : Blk (y5.setCell ⟨x, 28, Option.none⟩ (.slice D' dl.length dc')) x 66 [.int .i64 kind, .bool fc, .int .i64 fi, .bool tc, .int .i64 ti, .int .i64 op, .int .i64 rd, .int .i64 q0, .int .i64 q1, .int .i64 q2, .int .i64 q3, .int .i64 s1, .int .i64 s2, .int .i64 h1, .int .i64 h2, .slice (some ⟨gl, 0, Option.none⟩) zs.length (zs.length + 5), .int .i64 c0, .int .i64 c1, .int .i64 c2, .string nm, .int .i64 c3, .int .i64 c4, .int .i64 c5, .int .i64 c6, .int .i64 c7, .int .i64 up, .slice E' el.length ec', .slice L' ll.length lc', .slice D' dl.length dc', .bool more] := hX5'.set 28 (.slice D' dl.length dc')
  have ks5 : Keeps (One x) y5 (y5.setCell ⟨x, 28, Option.none⟩ (.slice D' dl.length dc')) := (Keeps.refl (One x) y5).setCell ⟨x, 28, Option.none⟩ _ (fun _ => rfl)
  obtain ⟨W6, hW6⟩ : ∃ W, W = y5.setCell ⟨x, 28, Option.none⟩ (.slice D' dl.length dc') := ⟨_, rfl⟩
  have hsz6a : W6.heap.size ≤ y5.heap.size := by rw [hW6]; simp
  have hsz6b : y5.heap.size ≤ W6.heap.size := by rw [hW6]; simp
  rw [← hW6] at hX6 ks5
  rw [← hW6]
  have hszk5 := hkn5.size
  have hlt5 := fun b (e : (Value.slice D' dl.length dc').ownBlock = some b) => World.ownsRow.lt hown5 b e
  have hR5 := owns_keeps hown5 ks5 (fun b e f => by have := (World.ownsRow.lt hown5 b e).1; simp only [One] at f; omega)
  have kx5 : Keeps (One x) W5 W6 := hkn5.of_none.trans ks5
  have kw6 : Keeps None w W6 := kw5.andThen kx5 (fun i hi e => by simp only [One] at e; omega)
  have hG6 := hG5.keeps kx5 (fun f => by simp only [One] at f; omega)
  have hZ6 := hZ5.keeps kx5 (fun f => hxz f.symm)
  have hR3 := owns_keeps hR3 kx5 (fun b e f => by have := (HLT3.out b e).1; simp only [One] at f; omega)
  have hR4 := owns_keeps hR4 kx5 (fun b e f => by have := (HLT4.out b e).1; simp only [One] at f; omega)
  clear kx5
  have HLT5 := Lib.hid hlt5
  clear hlt5
  clear hE5 hO5 kE5 hS5 c50 d50 d51 hW6 hown5 hX5' hX5 hG5 hZ5 ks5 hkn5
  go_wp2_with (first | (refine wpList_load_msg rfl (.tmp 1) rfl x rfl [.int .i64 kind, .bool fc, .int .i64 fi, .bool tc, .int .i64 ti, .int .i64 op, .int .i64 rd, .int .i64 q0, .int .i64 q1, .int .i64 q2, .int .i64 q3, .int .i64 s1, .int .i64 s2, .int .i64 h1, .int .i64 h2, .slice (some ⟨gl, 0, Option.none⟩) zs.length (zs.length + 5), .int .i64 c0, .int .i64 c1, .int .i64 c2, .string nm, .int .i64 c3, .int .i64 c4, .int .i64 c5, .int .i64 c6, .int .i64 c7, .int .i64 up, .slice E' el.length ec', .slice L' ll.length lc', .slice D' dl.length dc', .bool more] hX6 rfl ?_) | (refine wpList_store_msg rfl (.tmp 2) (.tmp 26) rfl z [.int .i64 kind, .bool fc, .int .i64 fi, .bool tc, .int .i64 ti, .int .i64 op, .int .i64 rd, .int .i64 q0, .int .i64 q1, .int .i64 q2, .int .i64 q3, .int .i64 s1, .int .i64 s2, .int .i64 h1, .int .i64 h2, .slice (some ⟨gl, 0, Option.none⟩) zs.length (zs.length + 5), .int .i64 c0, .int .i64 c1, .int .i64 c2, .string nm, .int .i64 c3, .int .i64 c4, .int .i64 c5, .int .i64 c6, .int .i64 c7, .int .i64 up, .slice E' el.length ec', .slice L' ll.length lc', .slice D' dl.length dc', .bool more] _ rfl rfl hZ6 rfl rfl (by simp [Value.oneCell']) ?_))
  have kz : Keeps (One z) W6 (W6.setRow z ([.int .i64 kind, .bool fc, .int .i64 fi, .bool tc, .int .i64 ti, .int .i64 op, .int .i64 rd, .int .i64 q0, .int .i64 q1, .int .i64 q2, .int .i64 q3, .int .i64 s1, .int .i64 s2, .int .i64 h1, .int .i64 h2, .slice (some ⟨gl, 0, Option.none⟩) zs.length (zs.length + 5), .int .i64 c0, .int .i64 c1, .int .i64 c2, .string nm, .int .i64 c3, .int .i64 c4, .int .i64 c5, .int .i64 c6, .int .i64 c7, .int .i64 up, .slice E' el.length ec', .slice L' ll.length lc', .slice D' dl.length dc', .bool more] : List Value).toArray) := (Keeps.refl (One z) W6).setRow z _ (fun _ => rfl)
  refine bodyPost_ret (results_cell_row rfl _ _ z _ _ (0, 0) _ rfl (hZ6.setRow [.int .i64 kind, .bool fc, .int .i64 fi, .bool tc, .int .i64 ti, .int .i64 op, .int .i64 rd, .int .i64 q0, .int .i64 q1, .int .i64 q2, .int .i64 q3, .int .i64 s1, .int .i64 s2, .int .i64 h1, .int .i64 h2, .slice (some ⟨gl, 0, Option.none⟩) zs.length (zs.length + 5), .int .i64 c0, .int .i64 c1, .int .i64 c2, .string nm, .int .i64 c3, .int .i64 c4, .int .i64 c5, .int .i64 c6, .int .i64 c7, .int .i64 up, .slice E' el.length ec', .slice L' ll.length lc', .slice D' dl.length dc', .bool more]).raw Try.underlying66 rfl (sizeMsg rfl)) rfl ⟨gl, E', ec', L', lc', D', dc', W3.heap.size, W4.heap.size, W5.heap.size, rfl, by omega, by omega, by omega, by omega, hG6.keeps kz (fun f => by simp only [One] at f; omega), owns_keeps hR3 kz (fun b e f => by have := (HLT3.out b e).1; simp only [One] at f; omega), fun b e => by have := (HLT3.out b e).2; omega, owns_keeps hR4 kz (fun b e f => by have := (HLT4.out b e).1; simp only [One] at f; omega), fun b e => by have := (HLT4.out b e).2; omega, owns_keeps hR5 kz (fun b e f => by have := (HLT5.out b e).1; simp only [One] at f; omega), kw6.andThen kz (fun i hi e => by simp only [One] at e; omega)⟩
end Go.Proofs.Ytcihfjfbcfgidaa
