/- bytes.Clone, a packet's twin, a packet's pair. -/
import Derived.Test.YtcplogdaepmpnaaBase
import Derived.Test.YtcplogdaepmpnaaRow
import Derived.Test.YtcplogdaepmpnaaLend
import Derived.Test.YtcplogdaepmpnaaPkt
import Derived.Outline
import Derived.Lib.SliceRun
namespace Go.Proofs.Ytcplogdaepmpnaa
open Go.RowKit

/-- A copy of its own; nil of nil. -/
def CloneEnd (zs : List Int) (w : World) (e : Ending) (w' : World) : Prop := ∃ v, e = .returned v ∧ Row .u8 5 w' w.heap.size v zs ∧ Keeps None w w'

set_option maxRecDepth 100000 in
set_option maxHeartbeats 1600000 in
theorem clone_any (A : Option Addr) (n cap : Nat) (zs : List Int) (w : World) (hA : Nums .u8 w A zs) (hn : zs.length = n) (hr : n ≤ 140737488351232) :
    Calls Try.prog 43 #[.slice A n cap] w (CloneEnd zs w) := by
  obtain ⟨i0, hi, hz0, hz1, hz2⟩ := info_parts Try.infoU8
  have qT : ∀ (w : World) (a : Option Addr) (n c n' c' : Nat), (binOp .eql 28 (.slice a n c) (.slice none n' c')).run Try.prog w = .ok (.bool a.isNone) w := fun w a n c n' c' => Lib.run_eql_slice_nil w _ _ a n c n' c' Try.underlying28
  subst hn
  cases A with
  | none =>
    go_enter Try.func43, Try.ntmps43
    go_wp2
    have h0 : zs = [] := by
      cases zs with
      | nil => rfl
      | cons y ys => obtain ⟨b, o, e, _⟩ := hA 0 (by simp); cases e
    subst h0
    go_ret
    exact ⟨_, rfl, Row.nil _ _ _ _, Keeps.refl _ _⟩
  | some ad =>
    have hrow : Row .u8 5 (w.alloc (.cells #[] 5)) w.heap.size (.slice (some ⟨w.heap.size, 0, Option.none⟩) 0 0) [] := Row.of_blk (zs := []) (Blk.new w 5 []) (Nat.le_refl _) (by simp)
    have hA' : Nums .u8 (w.alloc (.cells #[] 5)) (some ad) zs := hA.grew ((Keeps.refl _ w).alloc _)
    have HR := Lib.hid hrow
    have HA := Lib.hid hA'
    clear hrow hA'
    go_enter Try.func43, Try.ntmps43
    go_wp2_with (at_builtin; refine wpList_append_row _ rfl (.tmp 5) (.tmp 6) 28 rfl w.heap.size 5 i0 (.int .u8 0) 1 1 Try.underlying28 hi hz0 hz1 hz2 rfl (by decide) _ 0 _ rfl HR.out.raw (some ad) zs.length cap (zs.map (Value.int .u8)) rfl (by rw [List.length_map, Nat.mul_one]) (fun e => by cases e) HA.out.src (ints_oneCell _ _) (by unfold maxLen; omega) (by omega) (by simp) ?_; intro v' w1 hown hK _)
    go_ret
    refine ⟨v', rfl, Row.of_append (zs := []) rfl rfl hown, ((Keeps.refl _ w).alloc _).andThen hK ?_⟩
    intro i hi e
    have := OwnB.is e
    omega


/-! ### The twin -/
def TwinEnd (p : Pk) (zs : List Int) (w : World) (e : Ending) (w' : World) : Prop := ∃ v, e = .returned ({p with dv := v} : Pk).val ∧ Row .u8 5 w' w.heap.size v zs ∧ Keeps None w w'

set_option maxRecDepth 100000 in
set_option maxHeartbeats 1600000 in
theorem twin_any (p : Pk) (A : Option Addr) (n cap : Nat) (zs : List Int) (w : World) (hp : p.dv = .slice A n cap) (hA : Nums .u8 w A zs) (hn : zs.length = n) (hr : n ≤ 140737488351232) :
    Calls Try.prog 30 #[p.val] w (TwinEnd p zs w) := by
  obtain ⟨⟨f1, f2⟩, ct, ⟨t1, t2⟩, dv⟩ := p
  subst hp
  subst hn
  simp only [Pk.val]
  have hb := Blk.new w 33 [.bool f1, .int .i64 f2, .int .i64 ct, .bool t1, .int .i64 t2, .slice A zs.length cap]
  have hz := (Blk.new (w.alloc (.cells #[.bool f1, .int .i64 f2, .int .i64 ct, .bool t1, .int .i64 t2, .slice A zs.length cap] 33)) 33 [.bool false, .int .i64 0, .int .i64 0, .bool false, .int .i64 0, .slice Option.none 0 0])
  have hb' := hb.alloc (.cells #[.bool false, .int .i64 0, .int .i64 0, .bool false, .int .i64 0, .slice Option.none 0 0] 33)
  have hk0 := ((Keeps.refl None w).alloc (.cells #[.bool f1, .int .i64 f2, .int .i64 ct, .bool t1, .int .i64 t2, .slice A zs.length cap] 33)).alloc (.cells #[.bool false, .int .i64 0, .int .i64 0, .bool false, .int .i64 0, .slice Option.none 0 0] 33)
  have c5 := hb.cell 5 _ rfl
  go_enter Try.func30, Try.ntmps30
  go_wp2_with fail
  refine (clone_any A zs.length cap zs _ (hA.grew hk0) rfl hr).mono ?_
  rintro e w1 ⟨v, rfl, hrow, hk1⟩
  obtain ⟨A', c', rfl⟩ := hrow.slice
  have hB := hb'.grew hk1
  have hZ := hz.grew hk1
  have f5 := hB.free 5
  have c5' := hB.cell 5 _ rfl
  have hB2 := hB.set 5 (.slice A' zs.length c')
  have hZ2 := hZ.other ⟨w.heap.size, 5, Option.none⟩ (.slice A' zs.length c') (by simp)
  simp only [List.set] at hB2
  have hrow' : Row .u8 5 w1 w.heap.size (.slice A' zs.length c') zs := hrow.down (by simp; omega)
  have hV := Lib.hid hrow
  go_wp2_with (first
    | (with_reducible refine wpList_load_pk rfl (.tmp 1) rfl w.heap.size 0 ⟨(f1, f2), ct, (t1, t2), .slice A' zs.length c'⟩ rfl hB2.pk ?_)
    | (with_reducible refine wpList_store_pk rfl (.tmp 2) (.tmp 7) rfl (w.heap.size + 1) ⟨(f1, f2), ct, (t1, t2), .slice A' zs.length c'⟩ rfl rfl rfl _ (by simpa using hZ2) rfl ?_; intro w2 hZ3 hk2))
  refine bodyPost_ret (results_cell_row rfl _ _ (w.heap.size + 1) 33 _ (0, 0) _ rfl hZ3.raw Try.underlying33 rfl infoPk) rfl ⟨_, rfl, ?_, ?_⟩
  · have hlt := fun g hg => (hrow.lt g hg).1
    have h1 := (Keeps.refl (One w.heap.size) w1).setCell ⟨w.heap.size, 5, Option.none⟩ (.slice A' zs.length c') (fun _ => rfl)
    refine ((hrow'.keeps h1 ?_).keeps hk2 ?_)
    · intro g hg e
      have := hlt g hg
      simp [One] at e this
      omega
    · intro g hg e
      have := hlt g hg
      simp [One] at e this
      omega
  · refine (((hk0.trans hk1).setCell ⟨w.heap.size, 5, Option.none⟩ (.slice A' zs.length c') (by simp)).andThen hk2 ?_)
    intro i hi e
    simp [One] at e
    omega

/-- A packet's pair. -/
def Pk.pair (p : Pk) : Pr := (p.fr, p.to)

set_option maxRecDepth 100000 in
set_option maxHeartbeats 1600000 in
theorem between_any (p : Pk) (w : World) : Calls Try.prog 32 #[p.val] w fun e w' => e = .returned (prV p.pair) ∧ Keeps None w w' := by
  obtain ⟨⟨f1, f2⟩, ct, ⟨t1, t2⟩, dv⟩ := p
  simp only [Pk.val, prV, Pk.pair]
  have hb := Blk.new w 33 [.bool f1, .int .i64 f2, .int .i64 ct, .bool t1, .int .i64 t2, dv]
  have hb' := hb.alloc (.cells #[.bool false, .int .i64 0, .bool false, .int .i64 0] 73)
  have hz := Blk.new (w.alloc (.cells #[.bool f1, .int .i64 f2, .int .i64 ct, .bool t1, .int .i64 t2, dv] 33)) 73 [.bool false, .int .i64 0, .bool false, .int .i64 0]
  have hk0 := ((Keeps.refl None w).alloc (.cells #[.bool f1, .int .i64 f2, .int .i64 ct, .bool t1, .int .i64 t2, dv] 33)).alloc (.cells #[.bool false, .int .i64 0, .bool false, .int .i64 0] 73)
  have c0 := hb'.cell 0 _ rfl
  have c1 := hb'.cell 1 _ rfl
  have c3 := hb'.cell 3 _ rfl
  have c4 := hb'.cell 4 _ rfl
  go_enter Try.func32, Try.ntmps32
  go_wp2_with (first
    | (with_reducible refine wpList_store_row rfl 73 (.tmp 2) (.tmp 7) rfl (w.heap.size + 1) #[.bool f1, .int .i64 f2, .bool t1, .int .i64 t2] rfl rfl 73 _ (by simpa using hz.raw) infoPr rfl (by simp [Value.oneCell']) ?_))
  have hz2 := Blk.new (w.alloc (.cells #[.bool f1, .int .i64 f2, .int .i64 ct, .bool t1, .int .i64 t2, dv] 33)) 73 [.bool f1, .int .i64 f2, .bool t1, .int .i64 t2]
  refine bodyPost_ret (results_cell_row rfl _ _ (w.heap.size + 1) 73 #[.bool f1, .int .i64 f2, .bool t1, .int .i64 t2] (0, 0) _ rfl (by simpa using hz2.raw) Try.underlying73 rfl infoPr) rfl ⟨rfl, ((Keeps.refl None w).alloc _).alloc _⟩
end Go.Proofs.Ytcplogdaepmpnaa
