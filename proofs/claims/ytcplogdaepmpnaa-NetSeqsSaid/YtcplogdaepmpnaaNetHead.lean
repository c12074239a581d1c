/- cairnlaw16.head: a fixed packet is under way. -/
import Derived.Test.YtcplogdaepmpnaaNetListed
namespace Go.Proofs.Ytcplogdaepmpnaa
open Go.RowKit Go.Maps

theorem neq_nilSeq (w : World) (f : Fn) (b c : Array Value) : (binOp .neq 59 (.func f b c) .nilFunc).run Try.prog w = .ok (.bool true) w := by
  have h : ∀ d : Nat, (Op.equalIn (d + 1) 59 (.func f b c) .nilFunc).run Try.prog w = .ok false w := fun d => by
    simp [Op.equalIn, run_underlying Try.underlying59]
  simp only [binOp]
  simp [Op.equal, Op.maxDepth, h 9999]

set_option maxRecDepth 100000 in
set_option maxHeartbeats 2000000 in
theorem head_any (w : World) : Calls Try.prog 19 #[] w fun e w' => e = .returned (.bool true) ∧ Keeps None w w' := by
  go_enter Try.func19, Try.ntmps19
  go_wp2_with fail
  refine (nnew_any w).mono ?_
  rintro e w1 ⟨g, m1, m2, rfl, hN, hk1⟩
  have hgl := hN.blk.lt
  go_wp2_with fail
  have hb := Blk.new w1 5 [.int .u8 7]
  have kb := (Keeps.refl None w1).alloc (.cells #[.int .u8 7] 5)
  have hnum : Nums .u8 (w1.alloc (.cells #[.int .u8 7] 5)) (some ⟨w1.heap.size, 0, Option.none⟩) [7] := hb.nums 0 [7] rfl
  refine (send_any g w.heap.size (.slice Option.none 0 0) m1 m2 [] 0 (fun _ => 0) (fun _ => 0) ⟨(false, 3), 0, (false, 0), .slice (some ⟨w1.heap.size, 0, Option.none⟩) 1 1⟩ [7] (some ⟨w1.heap.size, 0, Option.none⟩) 1 1 _ (hN.grew kb) rfl hnum rfl (by omega) (by show (Lit.int .i64 3).wf = true; decide) (by show (Lit.int .i64 0).wf = true; decide) (by show (Lit.int .i64 (0 + 1)).wf = true; decide) (by omega)).mono ?_
  rintro e w2 (⟨hm, _⟩ | ⟨_, rfl, v', d, hN2, hk2, _, _⟩)
  · exact absurd (show (64 : Int) ≤ 0 from hm) (by decide)
  have hs1 := hk1.size
  have hsb := kb.size
  have k2 : Keeps None w w2 := (hk1.trans kb).andThen hk2 (fun i hi e => by
    have := hN.hg
    rcases e with e | e | e | e
    · omega
    · omega
    · omega
    · cases e)
  go_wp2_with fail
  have hone : upd (fun _ : Pr => (0 : Int)) ((false, 3), (false, 0)) (0 + 1) ((false, 3), (false, 0)) = 1 := upd_same _ _ _
  refine (npair_any (false, 3) (false, 0) w2 hN2 (by show (Lit.int .i64 3).wf = true; decide) (by show (Lit.int .i64 0).wf = true; decide)).mono ?_
  rintro e w3 ⟨rfl, hk3⟩
  simp only [Pk.pair, hone]
  go_wp2_with fail
  refine (under_any g w.heap.size v' m1 m2 _ (0 + 2) _ _ w3 (hN2.grew hk3) (by omega)).mono ?_
  rintro e w4 ⟨bs, A, c, rfl, _, hk4, _⟩
  have hq := neq_nilSeq w4 (.func 42) #[] #[.pointer (some ⟨bs, 0, Option.none⟩)]
  go_wp2_with fail
  go_ret
  exact ⟨rfl, (k2.trans hk3).trans hk4⟩
end Go.Proofs.Ytcplogdaepmpnaa
