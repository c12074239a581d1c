/- Addresses compared. -/
import Derived.Test.YtcplogdaepmpnaaNetCounted
namespace Go.Proofs.Ytcplogdaepmpnaa
open Go.RowKit

theorem run_eq_ad (w : World) (a b : Ad) (ha : IntV a.2) (hb : IntV b.2) : (binOp .eql 27 (adV a) (adV b)).run Try.prog w = .ok (.bool (decide (a = b))) w := by
  obtain ⟨r, hr, hiff⟩ := run_equal_deep (P := Try.prog) w (m := 2) (by omega) (k := 27) (by kernel_rfl) (by kernel_rfl) (keyAd a ha) (keyAd b hb)
  have e : r = decide (a = b) := by
    rw [Bool.eq_iff_iff, hiff, decide_eq_true_eq]
    exact ⟨fun h => keysA.inj a b (lawAd.inj (keyAd a ha) (by rw [h]; exact keyAd b hb)), fun h => by rw [h]⟩
  have hb : binOp .eql 27 (adV a) (adV b) = Value.bool <$> Op.equal 27 (adV a) (adV b) := rfl
  rw [hb, ← e]
  simp [hr, Result.andThen]
theorem exec_eq_ad {o : Oper} {a : Act} {w : World} (x y : Operand) (s t : TypeId) (ho : o.op = .binOp .eql s x y t) (hs : s = 27) (c d : Ad) (hx : a.eval x = adV c) (hy : a.eval y = adV d) (hc : IntV c.2) (hd : IntV d.2) (r : Bool) (hr : decide (c = d) = r) :
    (execOp a.eval o).run Try.prog w = .ok (.value (.bool r)) w := by
  subst hr
  subst hs
  have := run_eq_ad w c d hc hd
  have hg := run_eqGuard_agg (P := Try.prog) (w := w) .eql 27 x y #[.bool c.1, .int .i64 c.2] #[.bool d.1, .int .i64 d.2] (by kernel_rfl)
  unfold execOp
  simp only [ho, hx, hy, Sem.run_bind]
  rw [show adV c = .agg #[.bool c.1, .int .i64 c.2] from rfl, show adV d = .agg #[.bool d.1, .int .i64 d.2] from rfl] at this ⊢
  simp only [hg, this, Result.andThen_ok]
  rfl
end Go.Proofs.Ytcplogdaepmpnaa
