/- cairnlaw1.sameItem, of two that are alike. -/
import Derived.Test.YtnhhmkgcgogddaaBackPut
namespace Go.Proofs.Ytnhhmkgcgogddaa.apart
open Go.RowKit
set_option linter.unusedVariables false

def SameItEnd (w : World) (e : Ending) (w' : World) : Prop := e = .returned (.bool true) ∧ Keeps None w w'

set_option maxRecDepth 100000 in
set_option maxHeartbeats 1600000 in
theorem sameitem_num (kind n : Int) (A : Option Addr) (la ca : Nat) (B : Option Addr) (lb cb : Nat) (w : World) (hk : kind ≤ 2) :
    Calls Try.prog 32 #[.agg #[.int .i64 kind, .int .i64 n, .slice A la ca], .agg #[.int .i64 kind, .int .i64 n, .slice B lb cb]] w (SameItEnd w) := by
  go_enter Try.func32, Try.ntmps32
  go_wp2_with fail
  go_ret
  exact ⟨rfl, ((Keeps.refl _ _).alloc _).alloc _⟩
set_option maxRecDepth 100000 in
set_option maxHeartbeats 1600000 in
theorem sameitem_bytes (kind n n' : Int) (bs : List Int) (A : Option Addr) (la ca : Nat) (B : Option Addr) (lb cb : Nat) (w : World) (hk : 2 < kind) (hA : Nums .u8 w A bs) (hla : bs.length = la) (hB : Nums .u8 w B bs) (hlb : bs.length = lb) (hr : la ≤ 140737488351232) :
    Calls Try.prog 32 #[.agg #[.int .i64 kind, .int .i64 n, .slice A la ca], .agg #[.int .i64 kind, .int .i64 n', .slice B lb cb]] w (SameItEnd w) := by
  have k2 : Keeps None w ((w.alloc (.cells #[.int .i64 kind, .int .i64 n, .slice A la ca] 32)).alloc (.cells #[.int .i64 kind, .int .i64 n', .slice B lb cb] 32)) := ((Keeps.refl _ _).alloc _).alloc _
  have hA2 := hA.grew k2
  have hB2 := hB.grew k2
  go_enter Try.func32, Try.ntmps32
  go_wp2_with fail
  refine (same_any A la ca bs B lb cb bs _ hA2 hla hB2 hlb hr).mono ?_
  rintro e w1 ⟨rfl, hd⟩
  rw [show SameB bs bs = true by simp [SameB]]
  go_wp2_with fail
  go_ret
  exact ⟨rfl, k2.trans (hd.keeps None)⟩
end Go.Proofs.Ytnhhmkgcgogddaa.apart
