/- register.Read by the machine's state. -/
import Derived.Test.YtcihfjfbcfgidaaTick
namespace Go.Proofs.Ytcihfjfbcfgidaa
open Go.RowKit Go.Maps

/-- A block's bytes. -/
def sizeF (size : Int) : Int := if size < 0 then 0 else if 4096 < size then 4096 else size
theorem sizeF_in (size : Int) : 0 ≤ sizeF size ∧ sizeF size ≤ 4096 := by unfold sizeF; split <;> (try split) <;> omega

set_option maxRecDepth 100000 in
set_option maxHeartbeats 1600000 in
theorem readm_mach (client op k0 k1 k2 k3 round size : Int) (A : Option Addr) (n cap : Nat) (l : List Int) (w : World) (hA : Nums .i64 w A l) (hn : l.length = n) (hr : n ≤ 1000) (hwf : ∀ s ∈ l, (Lit.int .i64 s).wf = true) :
    Calls Try.prog 18 #[.int .i64 client, .int .i64 op, .agg #[.int .i64 k0, .int .i64 k1, .int .i64 k2, .int .i64 k3], .slice A n cap, .int .i64 round, .int .i64 size] w (MadeEnd ⟨client, op, k0, k1, k2, k3, uniqF l, false, [], sizeF size⟩ round w) := by
  have hb := Blk.new w 51 [.int .i64 k0, .int .i64 k1, .int .i64 k2, .int .i64 k3]
  have c0 := hb.cell 0 _ rfl
  have c1 := hb.cell 1 _ rfl
  have c2 := hb.cell 2 _ rfl
  have c3 := hb.cell 3 _ rfl
  have hsi := sizeF_in size
  have hul := uniqF_len l
  go_enter Try.func18, Try.ntmps18
  go_wp2_with fail
  have kA := (Keeps.refl None w).alloc (.cells #[.int .i64 k0, .int .i64 k1, .int .i64 k2, .int .i64 k3] 51)
  refine (made_any client op k0 k1 k2 k3 round A n cap l _ (hA.grew kA) hn (by omega)).mono ?_
  rintro e w1 ⟨v, rfl, hB1, hR1, hne, hk1⟩
  have kw1 := kA.trans hk1
  have hsA := kA.size
  obtain ⟨g, eg⟩ : ∃ g, g = (w.alloc (.cells #[.int .i64 k0, .int .i64 k1, .int .i64 k2, .int .i64 k3] 51)).heap.size + 1 := ⟨_, rfl⟩
  rw [← eg] at hB1 hne ⊢
  have hgl := hB1.lt
  have hgw : w.heap.size ≤ g := by omega
  have hR1' := hR1.down hsA
  have c11 := hB1.cell 11 _ rfl
  have f11 := hB1.free 11
  have FIN : ∀ s, s = sizeF size → MadeEnd ⟨client, op, k0, k1, k2, k3, uniqF l, false, [], sizeF size⟩ round w (.returned (.iface 104 (.pointer (some ⟨g, 0, Option.none⟩)))) (w1.setCell ⟨g, 11, Option.none⟩ (.int .i64 s)) := by
    rintro s rfl
    have ks : Keeps (One g) w1 (w1.setCell ⟨g, 11, Option.none⟩ (.int .i64 (sizeF size))) := (Keeps.refl _ _).setCell _ _ (fun _ => rfl)
    refine ⟨g, fun b => v.ownBlock = some b, rfl, ⟨⟨v, .slice Option.none 0 0, freshV, hB1.set 11 _, hR1'.keeps ks (fun b e f => hne b e f), (fun _ h => h), Row.nil _ _ _ _, In.nil _, rfl⟩, ⟨fun e => hne g e rfl, hgw⟩, ?_, ⟨by show (uniqF l).length ≤ 1000; omega, fun s hs => hwf s ((uniqF_mem l s).1 hs), uniqF_uniqF l, by simp, hsi⟩⟩, kw1.andThen ks (fun i hi e => by simp only [One] at e; omega)⟩
    rintro b e
    have := hR1'.lt b e
    have h2 : (w1.setCell ⟨g, 11, Option.none⟩ (.int .i64 (sizeF size))).heap.size = w1.heap.size := by simp [World.setCell]
    omega
  have HF := Lib.hid FIN
  clear eg hR1 FIN
  go_wp2_with fail
  all_goals
    go_ret
    refine HF.out _ ?_
    unfold sizeF
    split <;> (try split) <;> omega
end Go.Proofs.Ytcihfjfbcfgidaa
