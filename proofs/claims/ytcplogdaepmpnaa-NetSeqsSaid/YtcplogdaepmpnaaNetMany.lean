/- cairnlaw16.many: how many are under way. -/
import Derived.Test.YtcplogdaepmpnaaNetUnder
import Derived.Sort.QuietIn
import Derived.Shelf.Abstract
namespace Go.Proofs.Ytcplogdaepmpnaa
open Go.RowKit Go.Shelf

attribute [local go_sem] Oper.semAt_some

theorem eq_nilSeq (w : World) (f : Fn) (b c : Array Value) : (binOp .eql 59 (.func f b c) .nilFunc).run Try.prog w = .ok (.bool false) w := by
  have h : ∀ d : Nat, (Op.equalIn (d + 1) 59 (.func f b c) .nilFunc).run Try.prog w = .ok false w := fun d => by
    simp [Op.equalIn, run_underlying Try.underlying59]
  simp only [binOp]
  simp [Op.equal, Op.maxDepth, h 9999]

set_option maxRecDepth 100000 in
set_option maxHeartbeats 2000000 in
theorem many_any (g base : Nat) (v : Value) (m1 m2 : Nat) (L : Way) (n : Nat) (sn : Ad → Int) (mn : Pr → Int) (w : World) (hN : Nt w g base v m1 m2 L n sn mn) (hn : n ≤ 1099511627776) (hz : ∀ x ∈ L, x.2.length ≤ 140737488351232) :
    Calls Try.prog 18 #[.pointer (some ⟨g, 0, Option.none⟩)] w fun e w' => e = .returned (.int .i64 (L.length : Int)) ∧ Keeps None w w' := by
  have hmost := hN.most
  have k0 := (Keeps.refl None w).alloc (.cells #[.int .i64 0] 3)
  have hC := Blk.new w 3 [.int .i64 0]
  refine (callsIn_wide (n := 6)).1 ?_
  refine callsIn_of_wp_marks Try.func18 rfl trivial ?_ rfl
  simp only [Try.ntmps18, List.size_toArray, List.length_cons, List.length_nil, Nat.reduceAdd, Nat.reduceSub, Array.replicate_succ, Array.replicate_zero, List.push_toArray, List.append_toArray, List.nil_append, List.cons_append]
  gi_wp2
  refine ⟨trivial, ?_⟩
  refine (callsIn_wide.2 (under_any g base v m1 m2 L n sn mn _ (hN.grew k0) hn)).mono ?_
  rintro e w1 ⟨bs, A, c, rfl, hS, hk1, hbs, hAb⟩
  have hq := eq_nilSeq w1 (.func 42) #[] #[.pointer (some ⟨bs, 0, Option.none⟩)]
  have hC1 := hC.grew hk1
  have hs0 := k0.size
  have hs1 := hk1.size
  have hcl := hC1.lt
  gi_wp2
  refine range_good (F := Fence.wide) rfl (by omega) (gf := 42) (lb := #[.pointer (some ⟨bs, 0, Option.none⟩)]) rfl trivial (enters_of Try.func42 (by kernel_rfl) rfl)
    (under1_seq 5 (by omega) bs A c L (by omega) hz) (fun _ => rfl) w1.heap.size rfl
    (fun pre W => Blk W w.heap.size 3 [.int .i64 (pre.length : Int)] ∧ Keeps (One w.heap.size) w1 W) (fun _ _ _ => False) (One w.heap.size) ⟨fun e => by simp only [One] at e; omega, fun e => by simp only [One] at e; omega⟩
    (fun pre X Y h hk => ⟨h.1.keeps hk (fun e => by simp only [One] at e; omega), h.2.andThen hk (fun i hi e => by simp only [One] at e; omega)⟩) (fun _ _ _ _ h _ => h)
    (fun X Y h hk => hS.beside h hk (fun b e => .inl (by simp only [One] at e; omega))) ⟨hC1, Keeps.refl _ _⟩ hS
    (fun x => #[.pointer (some ⟨g, 0, Option.none⟩), undef, .int .i64 0, .pointer (some ⟨w.heap.size, 0, Option.none⟩), (.func (.func 42) #[] #[.pointer (some ⟨bs, 0, Option.none⟩)]), .pointer (some ⟨g, 0, Option.none⟩), (.func (.func 42) #[] #[.pointer (some ⟨bs, 0, Option.none⟩)]), (.func (.func 42) #[] #[.pointer (some ⟨bs, 0, Option.none⟩)]), .bool false, (.func (.func 42) #[] #[.pointer (some ⟨bs, 0, Option.none⟩)]), x.1.val, undef, undef, undef]) (fun x => by simp [encsU]) ?_ ?_ ?_
  · rintro pre x W0 W ⟨hb0, hK0⟩ hk0 hG hSt hlen hlt
    have hb := hb0.grew hk0
    have hKW := hK0.andThen hk0 (fun _ _ f => f.elim)
    gi_wp2
    refine ⟨Keeps.refl _ _, fun w2 hkw2 => ?_⟩
    have hb2 := hb.keeps hkw2 (fun e => by simp only [One] at e; omega)
    have hSt2 := hS.beside hSt hkw2 (fun b e => .inl (by simp only [One] at e; omega))
    have hK2 := hKW.andThen hkw2 (fun i hi e => by simp only [One] at e; omega)
    have c0 := hb2.cell 0 _ rfl
    have f0 := hb2.free 0
    have hwr : IntKind.i64.wrap ((pre.length : Int) + 1) = (pre.length : Int) + 1 := by rw [IntKind.wrap_i64]; omega
    gi_wp2
    have ks : Keeps (One w.heap.size) w2 (w2.setCell ⟨w.heap.size, 0, Option.none⟩ (.int .i64 ((pre.length : Int) + 1))) := (Keeps.refl _ _).setCell _ _ (fun _ => rfl)
    refine ⟨ks, hS.beside hSt2 ks (fun b e => .inr ⟨fun e2 => ?_, fun o => ⟨fun y hy => ?_, fun y hy => ?_⟩⟩), ?_, hK2.andThen ks (fun _ _ e => e)⟩
    · simp only [One] at e
      simp at hbs
      omega
    · obtain rfl : b = w.heap.size := e
      have := hb2.only hy
      match o, this with
      | 0, h => cases h
      | o + 1, h => cases h
    · obtain rfl : b = w.heap.size := e
      have := hb2.only hy
      match o, this with
      | 0, h => cases h
      | o + 1, h => cases h
    · have := hb2.set 0 (.int .i64 ((pre.length : Int) + 1))
      simpa using this
  · rintro xs W hSf ⟨hb, hK⟩ hD
    have hxl : xs.length = L.length := by have := congrArg List.length hSf; simpa using this
    rw [hxl] at hb
    have HXL := Lib.hid hxl
    clear hxl
    have c0 := hb.cell 0 _ rfl
    gi_wp2
    refine ⟨by simp, .inl ⟨_, _, rfl, run_takeDeferred hD, ?_⟩⟩
    refine ⟨_, results_tmp rfl _ _ _, rfl, ?_⟩
    refine (((k0.trans hk1).andThen hK ?_).andThen (keeps_putObj _ _ _) ?_)
    · intro i hi e
      simp only [One] at e
      omega
    · intro i hi e
      simp only [One] at e
      simp at hs0
      omega
  · rintro c pre W _ h _
    exact h.elim
end Go.Proofs.Ytcplogdaepmpnaa
