/- cairnlaw16.same: two packets, alike? -/
import Derived.Test.YtcplogdaepmpnaaNetHead
namespace Go.Proofs.Ytcplogdaepmpnaa
open Go.RowKit

set_option maxRecDepth 100000 in
set_option maxHeartbeats 4000000 in
theorem same16_any (p q : Pk) (xs ys : List Int) (Ap Aq : Option Addr) (cp cq : Nat) (w : World) (hp : p.dv = .slice Ap xs.length cp) (hq : q.dv = .slice Aq ys.length cq) (hnp : Nums .u8 w Ap xs) (hnq : Nums .u8 w Aq ys) (hr : xs.length ≤ 140737488351232) :
    Calls Try.prog 28 #[p.val, q.val] w fun e w' => e = .returned (.bool (decide (core (p, xs) = core (q, ys)))) ∧ Keeps None w w' := by
  obtain ⟨⟨f1, f2⟩, ct, ⟨t1, t2⟩, dv⟩ := p
  obtain ⟨⟨g1, g2⟩, cu, ⟨u1, u2⟩, dw⟩ := q
  simp only at hp hq
  subst hp
  subst hq
  by_cases h0 : f1 = g1
  · subst h0
    by_cases h1 : f2 = g2
    · subst h1
      by_cases h2 : ct = cu
      · subst h2
        by_cases h3 : t1 = u1
        · subst h3
          by_cases h4 : t2 = u2
          · subst h4
            have hb := (Blk.new w 33 [.bool f1, .int .i64 f2, .int .i64 ct, .bool t1, .int .i64 t2, .slice Ap xs.length cp]).alloc (.cells #[.bool f1, .int .i64 f2, .int .i64 ct, .bool t1, .int .i64 t2, .slice Aq ys.length cq] 33)
            have hc := Blk.new (w.alloc (.cells #[.bool f1, .int .i64 f2, .int .i64 ct, .bool t1, .int .i64 t2, .slice Ap xs.length cp] 33)) 33 [.bool f1, .int .i64 f2, .int .i64 ct, .bool t1, .int .i64 t2, .slice Aq ys.length cq]
            rw [World.size_alloc] at hc
            have k0 := ((Keeps.refl None w).alloc (.cells #[.bool f1, .int .i64 f2, .int .i64 ct, .bool t1, .int .i64 t2, .slice Ap xs.length cp] 33)).alloc (.cells #[.bool f1, .int .i64 f2, .int .i64 ct, .bool t1, .int .i64 t2, .slice Aq ys.length cq] 33)
            simp only [Pk.val]
            have b0 := hb.cell 0 _ rfl
            have b1 := hb.cell 1 _ rfl
            have b2 := hb.cell 2 _ rfl
            have b3 := hb.cell 3 _ rfl
            have b4 := hb.cell 4 _ rfl
            have b5 := hb.cell 5 _ rfl
            have c0 := hc.cell 0 _ rfl
            have c1 := hc.cell 1 _ rfl
            have c2 := hc.cell 2 _ rfl
            have c3 := hc.cell 3 _ rfl
            have c4 := hc.cell 4 _ rfl
            have c5 := hc.cell 5 _ rfl
            go_enter Try.func28, Try.ntmps28
            go_wp2_with fail
            refine (same_any Ap xs.length cp xs Aq ys.length cq ys _ (hnp.grew k0) rfl (hnq.grew k0) rfl hr).mono ?_
            rintro e w2 ⟨rfl, hd2⟩
            go_wp2_with fail
            go_ret
            exact ⟨ret_bool (by simp [core, SameB]), k0.trans (hd2.keeps _)⟩
          · obtain ⟨q1, q2⟩ := test_ne h4
            have hb := (Blk.new w 33 [.bool f1, .int .i64 f2, .int .i64 ct, .bool t1, .int .i64 t2, .slice Ap xs.length cp]).alloc (.cells #[.bool f1, .int .i64 f2, .int .i64 ct, .bool t1, .int .i64 u2, .slice Aq ys.length cq] 33)
            have hc := Blk.new (w.alloc (.cells #[.bool f1, .int .i64 f2, .int .i64 ct, .bool t1, .int .i64 t2, .slice Ap xs.length cp] 33)) 33 [.bool f1, .int .i64 f2, .int .i64 ct, .bool t1, .int .i64 u2, .slice Aq ys.length cq]
            rw [World.size_alloc] at hc
            have k0 := ((Keeps.refl None w).alloc (.cells #[.bool f1, .int .i64 f2, .int .i64 ct, .bool t1, .int .i64 t2, .slice Ap xs.length cp] 33)).alloc (.cells #[.bool f1, .int .i64 f2, .int .i64 ct, .bool t1, .int .i64 u2, .slice Aq ys.length cq] 33)
            simp only [Pk.val]
            have b0 := hb.cell 0 _ rfl
            have b1 := hb.cell 1 _ rfl
            have b2 := hb.cell 2 _ rfl
            have b3 := hb.cell 3 _ rfl
            have b4 := hb.cell 4 _ rfl
            have b5 := hb.cell 5 _ rfl
            have c0 := hc.cell 0 _ rfl
            have c1 := hc.cell 1 _ rfl
            have c2 := hc.cell 2 _ rfl
            have c3 := hc.cell 3 _ rfl
            have c4 := hc.cell 4 _ rfl
            have c5 := hc.cell 5 _ rfl
            go_enter Try.func28, Try.ntmps28
            go_wp2_with fail
            go_ret
            exact ⟨ret_bool (by simp [core, h4]), k0⟩
        · have q1 : (t1 == u1) = false := by simp [h3]
          have hb := (Blk.new w 33 [.bool f1, .int .i64 f2, .int .i64 ct, .bool t1, .int .i64 t2, .slice Ap xs.length cp]).alloc (.cells #[.bool f1, .int .i64 f2, .int .i64 ct, .bool u1, .int .i64 u2, .slice Aq ys.length cq] 33)
          have hc := Blk.new (w.alloc (.cells #[.bool f1, .int .i64 f2, .int .i64 ct, .bool t1, .int .i64 t2, .slice Ap xs.length cp] 33)) 33 [.bool f1, .int .i64 f2, .int .i64 ct, .bool u1, .int .i64 u2, .slice Aq ys.length cq]
          rw [World.size_alloc] at hc
          have k0 := ((Keeps.refl None w).alloc (.cells #[.bool f1, .int .i64 f2, .int .i64 ct, .bool t1, .int .i64 t2, .slice Ap xs.length cp] 33)).alloc (.cells #[.bool f1, .int .i64 f2, .int .i64 ct, .bool u1, .int .i64 u2, .slice Aq ys.length cq] 33)
          simp only [Pk.val]
          have b0 := hb.cell 0 _ rfl
          have b1 := hb.cell 1 _ rfl
          have b2 := hb.cell 2 _ rfl
          have b3 := hb.cell 3 _ rfl
          have b4 := hb.cell 4 _ rfl
          have b5 := hb.cell 5 _ rfl
          have c0 := hc.cell 0 _ rfl
          have c1 := hc.cell 1 _ rfl
          have c2 := hc.cell 2 _ rfl
          have c3 := hc.cell 3 _ rfl
          have c4 := hc.cell 4 _ rfl
          have c5 := hc.cell 5 _ rfl
          go_enter Try.func28, Try.ntmps28
          go_wp2_with fail
          go_ret
          exact ⟨ret_bool (by simp [core, h3]), k0⟩
      · obtain ⟨q1, q2⟩ := test_ne h2
        have hb := (Blk.new w 33 [.bool f1, .int .i64 f2, .int .i64 ct, .bool t1, .int .i64 t2, .slice Ap xs.length cp]).alloc (.cells #[.bool f1, .int .i64 f2, .int .i64 cu, .bool u1, .int .i64 u2, .slice Aq ys.length cq] 33)
        have hc := Blk.new (w.alloc (.cells #[.bool f1, .int .i64 f2, .int .i64 ct, .bool t1, .int .i64 t2, .slice Ap xs.length cp] 33)) 33 [.bool f1, .int .i64 f2, .int .i64 cu, .bool u1, .int .i64 u2, .slice Aq ys.length cq]
        rw [World.size_alloc] at hc
        have k0 := ((Keeps.refl None w).alloc (.cells #[.bool f1, .int .i64 f2, .int .i64 ct, .bool t1, .int .i64 t2, .slice Ap xs.length cp] 33)).alloc (.cells #[.bool f1, .int .i64 f2, .int .i64 cu, .bool u1, .int .i64 u2, .slice Aq ys.length cq] 33)
        simp only [Pk.val]
        have b0 := hb.cell 0 _ rfl
        have b1 := hb.cell 1 _ rfl
        have b2 := hb.cell 2 _ rfl
        have b3 := hb.cell 3 _ rfl
        have b4 := hb.cell 4 _ rfl
        have b5 := hb.cell 5 _ rfl
        have c0 := hc.cell 0 _ rfl
        have c1 := hc.cell 1 _ rfl
        have c2 := hc.cell 2 _ rfl
        have c3 := hc.cell 3 _ rfl
        have c4 := hc.cell 4 _ rfl
        have c5 := hc.cell 5 _ rfl
        go_enter Try.func28, Try.ntmps28
        go_wp2_with fail
        go_ret
        exact ⟨ret_bool (by simp [core, h2]), k0⟩
    · obtain ⟨q1, q2⟩ := test_ne h1
      have hb := (Blk.new w 33 [.bool f1, .int .i64 f2, .int .i64 ct, .bool t1, .int .i64 t2, .slice Ap xs.length cp]).alloc (.cells #[.bool f1, .int .i64 g2, .int .i64 cu, .bool u1, .int .i64 u2, .slice Aq ys.length cq] 33)
      have hc := Blk.new (w.alloc (.cells #[.bool f1, .int .i64 f2, .int .i64 ct, .bool t1, .int .i64 t2, .slice Ap xs.length cp] 33)) 33 [.bool f1, .int .i64 g2, .int .i64 cu, .bool u1, .int .i64 u2, .slice Aq ys.length cq]
      rw [World.size_alloc] at hc
      have k0 := ((Keeps.refl None w).alloc (.cells #[.bool f1, .int .i64 f2, .int .i64 ct, .bool t1, .int .i64 t2, .slice Ap xs.length cp] 33)).alloc (.cells #[.bool f1, .int .i64 g2, .int .i64 cu, .bool u1, .int .i64 u2, .slice Aq ys.length cq] 33)
      simp only [Pk.val]
      have b0 := hb.cell 0 _ rfl
      have b1 := hb.cell 1 _ rfl
      have b2 := hb.cell 2 _ rfl
      have b3 := hb.cell 3 _ rfl
      have b4 := hb.cell 4 _ rfl
      have b5 := hb.cell 5 _ rfl
      have c0 := hc.cell 0 _ rfl
      have c1 := hc.cell 1 _ rfl
      have c2 := hc.cell 2 _ rfl
      have c3 := hc.cell 3 _ rfl
      have c4 := hc.cell 4 _ rfl
      have c5 := hc.cell 5 _ rfl
      go_enter Try.func28, Try.ntmps28
      go_wp2_with fail
      go_ret
      exact ⟨ret_bool (by simp [core, h1]), k0⟩
  · have q1 : (f1 == g1) = false := by simp [h0]
    have hb := (Blk.new w 33 [.bool f1, .int .i64 f2, .int .i64 ct, .bool t1, .int .i64 t2, .slice Ap xs.length cp]).alloc (.cells #[.bool g1, .int .i64 g2, .int .i64 cu, .bool u1, .int .i64 u2, .slice Aq ys.length cq] 33)
    have hc := Blk.new (w.alloc (.cells #[.bool f1, .int .i64 f2, .int .i64 ct, .bool t1, .int .i64 t2, .slice Ap xs.length cp] 33)) 33 [.bool g1, .int .i64 g2, .int .i64 cu, .bool u1, .int .i64 u2, .slice Aq ys.length cq]
    rw [World.size_alloc] at hc
    have k0 := ((Keeps.refl None w).alloc (.cells #[.bool f1, .int .i64 f2, .int .i64 ct, .bool t1, .int .i64 t2, .slice Ap xs.length cp] 33)).alloc (.cells #[.bool g1, .int .i64 g2, .int .i64 cu, .bool u1, .int .i64 u2, .slice Aq ys.length cq] 33)
    simp only [Pk.val]
    have b0 := hb.cell 0 _ rfl
    have b1 := hb.cell 1 _ rfl
    have b2 := hb.cell 2 _ rfl
    have b3 := hb.cell 3 _ rfl
    have b4 := hb.cell 4 _ rfl
    have b5 := hb.cell 5 _ rfl
    have c0 := hc.cell 0 _ rfl
    have c1 := hc.cell 1 _ rfl
    have c2 := hc.cell 2 _ rfl
    have c3 := hc.cell 3 _ rfl
    have c4 := hc.cell 4 _ rfl
    have c5 := hc.cell 5 _ rfl
    go_enter Try.func28, Try.ntmps28
    go_wp2_with fail
    go_ret
    exact ⟨ret_bool (by simp [core, h0]), k0⟩
end Go.Proofs.Ytcplogdaepmpnaa
