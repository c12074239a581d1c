/- BackMsg: a message that was lent is as it was; then it is written over. -/
import Derived.Test.YtcihfjfbcfgidaaLend7
namespace Go.Proofs.Ytcihfjfbcfgidaa
open Go.RowKit Go.Maps Go.Proofs.YtcihfjfbcfgidaaW.PrintLast
set_option linter.unusedVariables false

theorem owns_there {w : World} {base t sz n c : Nat} {A : Option Addr} {xs : List Value} (h : w.ownsRow base t sz (.slice A n c) n xs) (h0 : 0 < n) : ∃ g, A = some ⟨g, 0, Option.none⟩ ∧ w.there g 0 (n * sz) := by
  rcases h.2 with ⟨e, h1⟩ | ⟨g, cap, cur, e, hb, hg, hn, hc, hs, ht⟩
  · omega
  · cases e
    refine ⟨g, rfl, fun j hj => ⟨?_, frozen_of_row _ _ _ cur t hg⟩⟩
    have : n * sz ≤ cur.size := by rw [hs]; exact Nat.mul_le_mul_right _ hn
    rw [cell_of_row _ _ _ cur t (0, 0) hg, Nat.zero_add]
    simp
    omega
/-- The blocks that were lent. -/
def Len7 (gl : Nat) (E' : Option Addr) (el : Nat) (ec' : Nat) (L' : Option Addr) (ll : Nat) (lc' : Nat) (D' : Option Addr) (dl : Nat) (dc' : Nat) : Nat → Prop := fun b => b = gl ∨ OwnB (.slice E' el ec') b ∨ OwnB (.slice L' ll lc') b ∨ OwnB (.slice D' dl dc') b
theorem Nums.off {k : IntKind} {S : Nat → Prop} {w w' : World} {A : Option Addr} {zs : List Int} (h : Nums k w A zs) (hk : Keeps S w w') (hA : ∀ b o, A = some ⟨b, o, Option.none⟩ → 0 < zs.length → ¬ S b) : Nums k w' A zs := by
  by_cases h0 : 0 < zs.length
  · exact h.keeps hk (fun b o e => hA b o e h0)
  · intro j hj
    omega

set_option maxRecDepth 100000 in
set_option maxHeartbeats 6400000 in
theorem backmsg_any (kind : Int) (fc : Bool) (fi : Int) (tc : Bool) (ti op rd q0 q1 q2 q3 s1 s2 h1 h2 : Int) (A : Option Addr) (cap : Nat) (zs : List Int) (c0 c1 c2 : Int) (nm : ByteArray) (c3 c4 c5 c6 c7 up : Int) (E : Option Addr) (ec : Nat) (el : List Ent) (L : Option Addr) (lc : Nat) (ll : List Las) (D : Option Addr) (dc : Nat) (dl : List Com) (more : Bool) (gl : Nat) (E' : Option Addr) (ec' : Nat) (L' : Option Addr) (lc' : Nat) (D' : Option Addr) (dc' : Nat) (n0 n1 n2 n3 : Nat) (w : World) (hA : Nums .u8 w A zs) (hz : zs.length ≤ 140737488351232) (hE : Ents w E el) (he : el.length * 40 ≤ 140737488351232) (hL : Lass w L ll) (hl : ll.length * 56 ≤ 140737488351232) (hD : Coms w D dl) (hd : dl.length * 80 ≤ 140737488351232)
    (hAo : ∀ b o, A = some ⟨b, o, Option.none⟩ → 0 < zs.length → b < n0) (g0 : n0 ≤ gl) (g1 : gl < n1) (g2 : n1 ≤ n2) (g3 : n2 ≤ n3) (hG : Blk w gl 5 (lentCells zs 5))
    (hO3 : w.ownsRow n1 43 4 (.slice E' el.length ec') el.length (el.map Ent.cells).flatten) (hb3 : ∀ b, (Value.slice E' el.length ec').ownBlock = some b → b < n2)
    (hO4 : w.ownsRow n2 133 7 (.slice L' ll.length lc') ll.length (ll.map Las.cells).flatten) (hb4 : ∀ b, (Value.slice L' ll.length lc').ownBlock = some b → b < n3)
    (hO5 : w.ownsRow n3 60 9 (.slice D' dl.length dc') dl.length (dl.map Com.cells).flatten) :
    Calls Try.prog 44 #[.agg #[.int .i64 kind, .bool fc, .int .i64 fi, .bool tc, .int .i64 ti, .int .i64 op, .int .i64 rd, .int .i64 q0, .int .i64 q1, .int .i64 q2, .int .i64 q3, .int .i64 s1, .int .i64 s2, .int .i64 h1, .int .i64 h2, .slice (some ⟨gl, 0, Option.none⟩) zs.length (zs.length + 5), .int .i64 c0, .int .i64 c1, .int .i64 c2, .string nm, .int .i64 c3, .int .i64 c4, .int .i64 c5, .int .i64 c6, .int .i64 c7, .int .i64 up, .slice E' el.length ec', .slice L' ll.length lc', .slice D' dl.length dc', .bool more], .agg #[.int .i64 kind, .bool fc, .int .i64 fi, .bool tc, .int .i64 ti, .int .i64 op, .int .i64 rd, .int .i64 q0, .int .i64 q1, .int .i64 q2, .int .i64 q3, .int .i64 s1, .int .i64 s2, .int .i64 h1, .int .i64 h2, .slice A zs.length cap, .int .i64 c0, .int .i64 c1, .int .i64 c2, .string nm, .int .i64 c3, .int .i64 c4, .int .i64 c5, .int .i64 c6, .int .i64 c7, .int .i64 up, .slice E el.length ec, .slice L ll.length lc, .slice D dl.length dc, .bool more]] w fun e w' => e = .returned (.bool true) ∧ Keeps (Len7 gl E' el.length ec' L' ll.length lc' D' dl.length dc') w w' := by
  obtain ⟨x, hx⟩ : ∃ x, x = w.heap.size := ⟨_, rfl⟩
  obtain ⟨y, hy⟩ : ∃ z, z = w.heap.size + 1 := ⟨_, rfl⟩
  obtain ⟨Wa, hWa⟩ : ∃ W, W = w.alloc (.cells #[.int .i64 kind, .bool fc, .int .i64 fi, .bool tc, .int .i64 ti, .int .i64 op, .int .i64 rd, .int .i64 q0, .int .i64 q1, .int .i64 q2, .int .i64 q3, .int .i64 s1, .int .i64 s2, .int .i64 h1, .int .i64 h2, .slice (some ⟨gl, 0, Option.none⟩) zs.length (zs.length + 5), .int .i64 c0, .int .i64 c1, .int .i64 c2, .string nm, .int .i64 c3, .int .i64 c4, .int .i64 c5, .int .i64 c6, .int .i64 c7, .int .i64 up, .slice E' el.length ec', .slice L' ll.length lc', .slice D' dl.length dc', .bool more] 66) := ⟨_, rfl⟩
  obtain ⟨W1, hW1⟩ : ∃ W, W = Wa.alloc (.cells #[.int .i64 kind, .bool fc, .int .i64 fi, .bool tc, .int .i64 ti, .int .i64 op, .int .i64 rd, .int .i64 q0, .int .i64 q1, .int .i64 q2, .int .i64 q3, .int .i64 s1, .int .i64 s2, .int .i64 h1, .int .i64 h2, .slice A zs.length cap, .int .i64 c0, .int .i64 c1, .int .i64 c2, .string nm, .int .i64 c3, .int .i64 c4, .int .i64 c5, .int .i64 c6, .int .i64 c7, .int .i64 up, .slice E el.length ec, .slice L ll.length lc, .slice D dl.length dc, .bool more] 66) := ⟨_, rfl⟩
  have ka : Keeps None w Wa := by rw [hWa]; exact (Keeps.refl _ _).alloc _
  have kb : Keeps None Wa W1 := by rw [hW1]; exact (Keeps.refl _ _).alloc _
  have hsa : Wa.heap.size = y := by rw [hWa, hy, World.size_alloc]
  have hX : Blk W1 x 66 [.int .i64 kind, .bool fc, .int .i64 fi, .bool tc, .int .i64 ti, .int .i64 op, .int .i64 rd, .int .i64 q0, .int .i64 q1, .int .i64 q2, .int .i64 q3, .int .i64 s1, .int .i64 s2, .int .i64 h1, .int .i64 h2, .slice (some ⟨gl, 0, Option.none⟩) zs.length (zs.length + 5), .int .i64 c0, .int .i64 c1, .int .i64 c2, .string nm, .int .i64 c3, .int .i64 c4, .int .i64 c5, .int .i64 c6, .int .i64 c7, .int .i64 up, .slice E' el.length ec', .slice L' ll.length lc', .slice D' dl.length dc', .bool more] := by
    have : Blk Wa x 66 [.int .i64 kind, .bool fc, .int .i64 fi, .bool tc, .int .i64 ti, .int .i64 op, .int .i64 rd, .int .i64 q0, .int .i64 q1, .int .i64 q2, .int .i64 q3, .int .i64 s1, .int .i64 s2, .int .i64 h1, .int .i64 h2, .slice (some ⟨gl, 0, Option.none⟩) zs.length (zs.length + 5), .int .i64 c0, .int .i64 c1, .int .i64 c2, .string nm, .int .i64 c3, .int .i64 c4, .int .i64 c5, .int .i64 c6, .int .i64 c7, .int .i64 up, .slice E' el.length ec', .slice L' ll.length lc', .slice D' dl.length dc', .bool more] := by rw [hWa, hx]; exact Blk.new _ _ _
    exact this.grew kb
  have hY : Blk W1 y 66 [.int .i64 kind, .bool fc, .int .i64 fi, .bool tc, .int .i64 ti, .int .i64 op, .int .i64 rd, .int .i64 q0, .int .i64 q1, .int .i64 q2, .int .i64 q3, .int .i64 s1, .int .i64 s2, .int .i64 h1, .int .i64 h2, .slice A zs.length cap, .int .i64 c0, .int .i64 c1, .int .i64 c2, .string nm, .int .i64 c3, .int .i64 c4, .int .i64 c5, .int .i64 c6, .int .i64 c7, .int .i64 up, .slice E el.length ec, .slice L ll.length lc, .slice D dl.length dc, .bool more] := by rw [hW1, ← hsa]; exact Blk.new _ _ _
  have k1 := ka.trans kb
  have hxy : y ≠ x := by omega
  have hxge : w.heap.size ≤ x := by omega
  have hyge : w.heap.size ≤ y := by omega
  have x15 := hX.cell 15 _ rfl
  have f15 := hX.free 15
  have y15 := hY.cell 15 _ rfl
  have hgl := hG.lt
  go_enter Try.func44, Try.ntmps44
  go_upto_region 1 with (fail)
  rw [← hWa, ← hW1, ← hy, ← hx]
  clear hWa hW1 hx hy hsa ka kb
  go_upto_region 3 with (fail)
  have hX2 : Blk (W1.setCell ⟨x, 15, Option.none⟩ (.slice A zs.length cap)) x 66 [.int .i64 kind, .bool fc, .int .i64 fi, .bool tc, .int .i64 ti, .int .i64 op, .int .i64 rd, .int .i64 q0, .int .i64 q1, .int .i64 q2, .int .i64 q3, .int .i64 s1, .int .i64 s2, .int .i64 h1, .int .i64 h2, .slice A zs.length cap, .int .i64 c0, .int .i64 c1, .int .i64 c2, .string nm, .int .i64 c3, .int .i64 c4, .int .i64 c5, .int .i64 c6, .int .i64 c7, .int .i64 up, .slice E' el.length ec', .slice L' ll.length lc', .slice D' dl.length dc', .bool more] := hX.set 15 (.slice A zs.length cap)
  have k2 : Keeps (One x) W1 (W1.setCell ⟨x, 15, Option.none⟩ (.slice A zs.length cap)) := (Keeps.refl (One x) W1).setCell ⟨x, 15, Option.none⟩ _ (fun _ => rfl)
  obtain ⟨W2, hW2⟩ : ∃ W, W = W1.setCell ⟨x, 15, Option.none⟩ (.slice A zs.length cap) := ⟨_, rfl⟩
  rw [← hW2] at hX2 k2
  rw [← hW2]
  have hY2 := hY.keeps k2 hxy
  have kw2 : Keeps None w W2 := k1.andThen k2 (fun i hi e => by simp only [One] at e; omega)
  clear hW2 x15 f15 y15 hX hY k1 k2
  go_wp2_with (first | (refine wpList_load_msg rfl (.tmp 2) rfl x rfl [.int .i64 kind, .bool fc, .int .i64 fi, .bool tc, .int .i64 ti, .int .i64 op, .int .i64 rd, .int .i64 q0, .int .i64 q1, .int .i64 q2, .int .i64 q3, .int .i64 s1, .int .i64 s2, .int .i64 h1, .int .i64 h2, .slice A zs.length cap, .int .i64 c0, .int .i64 c1, .int .i64 c2, .string nm, .int .i64 c3, .int .i64 c4, .int .i64 c5, .int .i64 c6, .int .i64 c7, .int .i64 up, .slice E' el.length ec', .slice L' ll.length lc', .slice D' dl.length dc', .bool more] hX2 rfl ?_) | (refine wpList_load_msg rfl (.tmp 3) rfl y rfl [.int .i64 kind, .bool fc, .int .i64 fi, .bool tc, .int .i64 ti, .int .i64 op, .int .i64 rd, .int .i64 q0, .int .i64 q1, .int .i64 q2, .int .i64 q3, .int .i64 s1, .int .i64 s2, .int .i64 h1, .int .i64 h2, .slice A zs.length cap, .int .i64 c0, .int .i64 c1, .int .i64 c2, .string nm, .int .i64 c3, .int .i64 c4, .int .i64 c5, .int .i64 c6, .int .i64 c7, .int .i64 up, .slice E el.length ec, .slice L ll.length lc, .slice D dl.length dc, .bool more] hY2 rfl ?_))
  refine (samemsg_any kind fc fi tc ti op rd q0 q1 q2 q3 s1 s2 h1 h2 zs c0 c1 c2 nm c3 c4 c5 c6 c7 up el ll dl more A cap E' ec' L' lc' D' dc' A cap E ec L lc D dc W2 (hA.grew kw2) (hA.grew kw2) hz ((Ents.own hO3).grew kw2) (hE.grew kw2) ((Lass.own hO4).grew kw2) (hL.grew kw2) (by omega) (by omega) ((Coms.own hO5).grew kw2) (hD.grew kw2) (by omega)).mono ?_
  rintro e w3 ⟨rfl, hk3⟩
  have k03 := kw2.trans hk3
  have hX3 := hX2.grew hk3
  have hY3 := hY2.grew hk3
  have hG3 := hG.grew k03
  have hN3 := hA.grew k03
  have hlE := fun b (f : OwnB (.slice E' el.length ec') b) => (show n1 ≤ b ∧ b < n2 ∧ b < w.heap.size from ⟨(World.ownsRow.lt hO3 b f).1, hb3 b f, (World.ownsRow.lt hO3 b f).2⟩)
  have hlL := fun b (f : OwnB (.slice L' ll.length lc') b) => (show n2 ≤ b ∧ b < n3 ∧ b < w.heap.size from ⟨(World.ownsRow.lt hO4 b f).1, hb4 b f, (World.ownsRow.lt hO4 b f).2⟩)
  have hlD := fun b (f : OwnB (.slice D' dl.length dc') b) => (show n3 ≤ b ∧ b < w.heap.size from World.ownsRow.lt hO5 b f)
  have hO3 := owns_grew hO3 k03
  have hO4 := owns_grew hO4 k03
  have hO5 := owns_grew hO5 k03
  have HB3 := Lib.hid hlE
  have HB4 := Lib.hid hlL
  have HB5 := Lib.hid hlD
  have HAO := Lib.hid hAo
  clear hlE hlL hlD hk3 hX2 hY2 kw2 hA hE hL hD hG hb3 hb4 hAo
  have th3 : 0 < el.length → ∃ g, E' = some ⟨g, 0, Option.none⟩ ∧ w3.there g 0 (el.length * 4) := fun h0 => owns_there hO3 h0
  have xx3 := hX3.cell 26 _ rfl
  go_wp2_with fail
  go_loopw [7] (fun i wr => ∃ j : Nat, j ≤ el.length ∧ i = .int .i64 j ∧ (0 < el.length → ∃ g, E' = some ⟨g, 0, Option.none⟩ ∧ wr.there g 0 (el.length * 4)) ∧ Keeps (OwnB (.slice E' el.length ec')) w3 wr) (fun i _ => el.length - (intOf i).toNat)
  case atStart => exact ⟨0, Nat.zero_le _, rfl, th3, Keeps.refl _ _⟩
  case round =>
    clear th3 xx3
    obtain ⟨j, hj, rfl, hth, hK3⟩ := hrel
    have hXr := hX3.keeps hK3 (fun f => by have := HB3.out x f; omega)
    have xx := hXr.cell 26 _ rfl
    by_cases hjl : j < el.length
    · obtain ⟨gg, eg, hg⟩ := hth (by omega)
      subst eg
      have hgj : wr.there gg (j * 4) 4 := fun i hi => by
        have := hg (j * 4 + i) (by omega)
        rwa [Nat.zero_add] at this
      have hth2 : Hid (∀ vs : List Value, (wr.setCells gg (j * 4) vs).there gg 0 (el.length * 4)) := Lib.hid (fun vs => World.there_setCells hg _ _ _)
      clear hth hg
      go_wp2_with (refine wpList_store_mid ?_ 43 (.tmp 31) (.tmp 30) ?_ gg (j * 4) #[.string ⟨#[115, 112, 111, 105, 108, 116]⟩, .int .i64 0, .int .i64 0, .int .i64 0] ?_ ?_ ?_ ?_ ?_ ?_; (rfl); (rfl); (rfl); (rfl); (exact hgj); (kernel_rfl); (simp [Value.oneCell']))
      go_roundw
      case rel => exact ⟨j + 1, by omega, by go_num, fun _ => ⟨gg, rfl, hth2.out _⟩, hK3.setCells gg _ _ (fun _ => rfl)⟩
      case measure => simp [intOf]; omega
    · obtain rfl : j = el.length := by omega
      go_upto_region 8 with (fail)
      obtain ⟨w4, hw0⟩ : ∃ W, W = wr := ⟨_, rfl⟩
      rw [← hw0] at hXr hK3
      rw [← hw0]
      clear hw0 hth hjl hj
      have hX4 := hXr
      have hY4 := hY3.keeps hK3 (fun f => by have := HB3.out y f; omega)
      have hG4 := hG3.keeps hK3 (fun f => by have := HB3.out gl f; omega)
      have hN4 := hN3.off hK3 (fun b o e h0 f => by have := HAO.out b o e h0; have := HB3.out b f; omega)
      have hO4 := owns_keeps hO4 hK3 (fun b e f => by have := HB3.out b f; have := HB4.out b e; omega)
      have hO5 := owns_keeps hO5 hK3 (fun b e f => by have := HB3.out b f; have := HB5.out b e; omega)
      clear xx hXr hX3 hY3 hG3 hN3 hO3
      have th4 : 0 < ll.length → ∃ g, L' = some ⟨g, 0, Option.none⟩ ∧ w4.there g 0 (ll.length * 7) := fun h0 => owns_there hO4 h0
      have xx4 := hX4.cell 27 _ rfl
      go_wp2_with fail
      go_loopw [8] (fun i wr => ∃ j : Nat, j ≤ ll.length ∧ i = .int .i64 j ∧ (0 < ll.length → ∃ g, L' = some ⟨g, 0, Option.none⟩ ∧ wr.there g 0 (ll.length * 7)) ∧ Keeps (OwnB (.slice L' ll.length lc')) w4 wr) (fun i _ => ll.length - (intOf i).toNat)
      case atStart => exact ⟨0, Nat.zero_le _, rfl, th4, Keeps.refl _ _⟩
      case round =>
        clear th4 xx4
        obtain ⟨j, hj, rfl, hth, hK4⟩ := hrel
        have hXr := hX4.keeps hK4 (fun f => by have := HB4.out x f; omega)
        have xx := hXr.cell 27 _ rfl
        by_cases hjl : j < ll.length
        · obtain ⟨gg, eg, hg⟩ := hth (by omega)
          subst eg
          have hgj : wr.there gg (j * 7) 7 := fun i hi => by
            have := hg (j * 7 + i) (by omega)
            rwa [Nat.zero_add] at this
          have hth2 : Hid (∀ vs : List Value, (wr.setCells gg (j * 7) vs).there gg 0 (ll.length * 7)) := Lib.hid (fun vs => World.there_setCells hg _ _ _)
          clear hth hg
          go_wp2_with (refine wpList_store_mid ?_ 133 (.tmp 45) (.tmp 44) ?_ gg (j * 7) #[.int .i64 (-9), .int .i64 0, .int .i64 0, .int .i64 0, .int .i64 0, .int .i64 0, .int .i64 0] ?_ ?_ ?_ ?_ ?_ ?_; (rfl); (rfl); (rfl); (rfl); (exact hgj); (kernel_rfl); (simp [Value.oneCell']))
          go_roundw
          case rel => exact ⟨j + 1, by omega, by go_num, fun _ => ⟨gg, rfl, hth2.out _⟩, hK4.setCells gg _ _ (fun _ => rfl)⟩
          case measure => simp [intOf]; omega
        · obtain rfl : j = ll.length := by omega
          go_upto_region 12 with (fail)
          obtain ⟨w5, hw1⟩ : ∃ W, W = wr := ⟨_, rfl⟩
          rw [← hw1] at hXr hK4
          rw [← hw1]
          clear hw1 hth hjl hj
          have hX5 := hXr
          have hY5 := hY4.keeps hK4 (fun f => by have := HB4.out y f; omega)
          have hG5 := hG4.keeps hK4 (fun f => by have := HB4.out gl f; omega)
          have hN5 := hN4.off hK4 (fun b o e h0 f => by have := HAO.out b o e h0; have := HB4.out b f; omega)
          have hO5 := owns_keeps hO5 hK4 (fun b e f => by have := HB4.out b f; have := HB5.out b e; omega)
          clear xx hXr hX4 hY4 hG4 hN4 hO4
          have th5 : 0 < dl.length → ∃ g, D' = some ⟨g, 0, Option.none⟩ ∧ w5.there g 0 (dl.length * 9) := fun h0 => owns_there hO5 h0
          have xx5 := hX5.cell 28 _ rfl
          go_wp2_with fail
          go_loopw [9] (fun i wr => ∃ j : Nat, j ≤ dl.length ∧ i = .int .i64 j ∧ (0 < dl.length → ∃ g, D' = some ⟨g, 0, Option.none⟩ ∧ wr.there g 0 (dl.length * 9)) ∧ Keeps (OwnB (.slice D' dl.length dc')) w5 wr) (fun i _ => dl.length - (intOf i).toNat)
          case atStart => exact ⟨0, Nat.zero_le _, rfl, th5, Keeps.refl _ _⟩
          case round =>
            clear th5 xx5
            obtain ⟨j, hj, rfl, hth, hK5⟩ := hrel
            have hXr := hX5.keeps hK5 (fun f => by have := HB5.out x f; omega)
            have xx := hXr.cell 28 _ rfl
            by_cases hjl : j < dl.length
            · obtain ⟨gg, eg, hg⟩ := hth (by omega)
              subst eg
              have hgj : wr.there gg (j * 9) 9 := fun i hi => by
                have := hg (j * 9 + i) (by omega)
                rwa [Nat.zero_add] at this
              have hth2 : Hid (∀ vs : List Value, (wr.setCells gg (j * 9) vs).there gg 0 (dl.length * 9)) := Lib.hid (fun vs => World.there_setCells hg _ _ _)
              clear hth hg
              go_wp2_with (refine wpList_store_mid ?_ 60 (.tmp 57) (.tmp 56) ?_ gg (j * 9) #[.int .i64 (-9), .int .i64 0, .int .i64 0, .string ⟨#[]⟩, .int .i64 0, .int .i64 0, .int .i64 0, .int .i64 0, .int .i64 0] ?_ ?_ ?_ ?_ ?_ ?_; (rfl); (rfl); (rfl); (rfl); (exact hgj); (kernel_rfl); (simp [Value.oneCell']))
              go_roundw
              case rel => exact ⟨j + 1, by omega, by go_num, fun _ => ⟨gg, rfl, hth2.out _⟩, hK5.setCells gg _ _ (fun _ => rfl)⟩
              case measure => simp [intOf]; omega
            · obtain rfl : j = dl.length := by omega
              go_upto_region 16 with (fail)
              obtain ⟨w6, hw2⟩ : ∃ W, W = wr := ⟨_, rfl⟩
              rw [← hw2] at hXr hK5
              rw [← hw2]
              clear hw2 hth hjl hj
              have hX6 := hXr
              have hY6 := hY5.keeps hK5 (fun f => by have := HB5.out y f; omega)
              have hG6 := hG5.keeps hK5 (fun f => by have := HB5.out gl f; omega)
              have hN6 := hN5.off hK5 (fun b o e h0 f => by have := HAO.out b o e h0; have := HB5.out b f; omega)
              clear xx hXr hX5 hY5 hG5 hN5 hO5
              have y15 := hY6.cell 15 _ rfl
              go_wp2_with fail
              refine (back_any gl zs.length zs A zs.length cap w6 hG6 rfl hN6 rfl (by omega)).mono ?_
              rintro e w7 ⟨rfl, -, hk7⟩
              go_wp2_with fail
              go_ret
              exact ⟨rfl, (((k03.of_none.trans (hK3.mono (fun b _ f => .inr (.inl f)))).trans (hK4.mono (fun b _ f => .inr (.inr (.inl f))))).trans (hK5.mono (fun b _ f => .inr (.inr (.inr f))))).trans (hk7.mono (fun b _ f => .inl f))⟩
end Go.Proofs.Ytcihfjfbcfgidaa
