/- WireBook's parts: bytes read as a row of one's own; what WireBook puts of a list of things; a slice of slices of bytes as an argument. -/
import Derived.Test.YtnhhmkgcgogddaaApartState
import Derived.Test.YtnhhmkgcgogddaaMoved
import Derived.Test.YtnhhmkgcgogddaaGrownBytes
namespace Go.Proofs.Ytnhhmkgcgogddaa
open Go.RowKit Go.Proofs.YtnhhmkgcgogddaaW.PrintLast
set_option linter.unusedVariables false

def ReadEndR (kind n : Int) (bs : List Int) (s' : St) (g base : Nat) (v : Value) (zs : List Int) (w : World) (e : Ending) (w' : World) : Prop :=
  ∃ A2 c2, e = .returned (.agg #[.int .i64 kind, .int .i64 n, .slice A2 bs.length c2]) ∧ Row .u8 5 w' w.heap.size (.slice A2 bs.length c2) bs ∧ s'.at w' g base v zs ∧ Keeps (One g) w w'

set_option maxRecDepth 100000 in
set_option maxHeartbeats 1600000 in
theorem cread_bytR (g base : Nat) (v : Value) (zs : List Int) (s : St) (w : World) (h : s.at w g base v zs) (hr : zs.length ≤ 140737488351232) (hb : Bytes zs) :
    Calls Try.prog 33 #[.pointer (some ⟨g, 0, Option.none⟩), .int .i64 3] w (ReadEndR 3 (0) ((bytStep zs s).1) (bytStep zs s).2 g base v zs w) := by
  obtain ⟨x, hx⟩ : ∃ x, x = bytStep zs s := ⟨_, rfl⟩
  have hP := fun w h => rByt_any g base v zs s w h hr hb
  skip
  rw [← hx] at hP ⊢
  have HP := Lib.hid hP
  obtain ⟨R, hR⟩ : ∃ R, R = ReadEndR 3 (0) (x.1) x.2 g base v zs w := ⟨_, rfl⟩
  rw [← hR]
  have HR := Lib.hid hR
  clear hP hx hR
  have hgl : g < w.heap.size := Blk.lt (Rd.blk h)
  obtain ⟨hk, hz, hxb⟩ := itemW_facts w 3
  unfold itemW at hk hz hxb
  have h1 : s.at _ g base v zs := Rd.grew h hk
  have HS := Lib.hid (show w.heap.size + 1 < ((w.alloc (.cells #[.int .i64 0, .int .i64 0, .slice Option.none 0 0] 32)).alloc (.cells #[.int .i64 3, .int .i64 0, .slice Option.none 0 0] 32)).heap.size from hxb.lt)
  go_enter Try.func33, Try.ntmps33
  go_wp2_with fail
  refine (HP.out _ h1).mono ?_
  rintro e w2 ⟨v2, rfl, hv2, h2, hk2⟩
  obtain ⟨A2, c2, rfl, -, n2, nn2, no2, -⟩ := hv2.open_
  have hz2 := hz.keeps hk2 (fun e => by have : w.heap.size = g := e; omega)
  have hx2 := hxb.keeps hk2 (fun e => by have : w.heap.size + 1 = g := e; omega)
  have hK2 := hk.of_none.trans hk2
  have hs2 := hk2.size
  have hs3 := HS.out
  have no2' := fun b (e : (Value.slice A2 x.1.length c2).ownBlock = some b) => hv2.lt b e
  have hsw := hK2.size
  have hv2 := hv2.down (base' := w.heap.size) (by have := hk.size; omega)
  have z0 := hz2.cell 0 _ rfl
  have z1 := hz2.cell 1 _ rfl
  have z2 := hz2.cell 2 _ rfl
  have y0 := hz2.free 0
  have y1 := hz2.free 1
  have y2 := hz2.free 2
  have x0 := hx2.cell 0 _ rfl
  have x1 := hx2.cell 1 _ rfl
  have x2 := hx2.cell 2 _ rfl
  have u1 := hx2.free 2
  go_wp2_with fail
  refine bodyPost_ret (results_cell_row rfl _ _ w.heap.size 32 #[.int .i64 3, .int .i64 0, .slice A2 x.1.length c2] (0, 0) _ rfl ((((hz2.other ⟨w.heap.size + 1, 2, Option.none⟩ (.slice A2 x.1.length c2) (by simp)).set 0 (.int .i64 3)).set 1 (.int .i64 0)).set 2 (.slice A2 x.1.length c2)).raw Try.underlying32 rfl Try.sizeIt) rfl ?_
  rw [HR.out]
  have kf : Keeps (Two2 w.heap.size (w.heap.size + 1)) w2 ((((w2.setCell ⟨w.heap.size + 1, 2, Option.none⟩ (.slice A2 x.1.length c2)).setCell ⟨w.heap.size, 0, Option.none⟩ (.int .i64 3)).setCell ⟨w.heap.size, 1, Option.none⟩ (.int .i64 0)).setCell ⟨w.heap.size, 2, Option.none⟩ (.slice A2 x.1.length c2)) :=
    ((((Keeps.refl _ _).setCell ⟨w.heap.size + 1, 2, Option.none⟩ _ (fun _ => .inr rfl)).setCell ⟨w.heap.size, 0, Option.none⟩ _ (fun _ => .inl rfl)).setCell ⟨w.heap.size, 1, Option.none⟩ _ (fun _ => .inl rfl)).setCell ⟨w.heap.size, 2, Option.none⟩ _ (fun _ => .inl rfl)
  have hsf := kf.size
  exact ⟨A2, c2, rfl, hv2.keeps kf (fun b e f => by have := (no2' b e).1; rcases f with f | f <;> omega), Rd.keeps h2 kf (fun e => by rcases e with e | e <;> omega) (fun b e f => by have := ((Rd.row h).lt b e).2; rcases f with f | f <;> omega), hK2.andThen kf (fun i hi e => by rcases e with e | e <;> omega)⟩

/-! ### What is put of a list of things -/
def rightIt (x : It) : It := ⟨rightK x.kind, rightN x.kind x.n, x.A, x.len, x.cap, x.bs⟩
def goF (its : List It) (k : Nat) : List It := ((its.take k).map rightIt).filter fun x => decide (x.len ≤ 2000)
theorem goF_zero (its : List It) : goF its 0 = [] := by simp [goF]
theorem goF_yes {its : List It} {k : Nat} {x : It} (h : its[k]? = some x) (hl : x.len ≤ 2000) : goF its (k + 1) = goF its k ++ [rightIt x] := by
  unfold goF
  rw [take_succ_of h, List.map_append, List.filter_append]
  simp [rightIt, hl]
theorem goF_no {its : List It} {k : Nat} {x : It} (h : its[k]? = some x) (hl : ¬ x.len ≤ 2000) : goF its (k + 1) = goF its k := by
  unfold goF
  rw [take_succ_of h, List.map_append, List.filter_append]
  simp [rightIt, hl]
theorem goF_len (its : List It) (k : Nat) : (goF its k).length ≤ k := by
  unfold goF
  refine Nat.le_trans (List.length_filter_le _ _) ?_
  rw [List.length_map, List.length_take]; omega
theorem goF_good {w : World} {its : List It} (h : ∀ x ∈ its, x.Raw w) (k : Nat) : ∀ x ∈ goF its k, putLoop.Good w x ∧ x.len ≤ 2000 := by
  intro x hx
  unfold goF at hx
  obtain ⟨h1, h2⟩ := List.mem_filter.1 hx
  obtain ⟨y, hy, rfl⟩ := List.mem_map.1 h1
  have raw := h y (List.mem_of_mem_take hy)
  have hl : y.len ≤ 2000 := of_decide_eq_true h2
  exact ⟨⟨⟨raw.nums, raw.len, raw.bytes, raw.nil, putLoop.rightN_in _ _ raw.n, by show y.len ≤ 65536; omega⟩, putLoop.rightK_in _, fun e => putLoop.rightN_pos _ _ e⟩, hl⟩

set_option maxRecDepth 100000 in
set_option maxHeartbeats 3200000 in
theorem rights_any (A : Option Addr) (n cap : Nat) (its : List It) (w : World) (hA : ItsAt w A its) (hraw : ∀ x ∈ its, x.Raw w) (hn : its.length = n) (hr : n ≤ 140737488351232) :
    Calls Try.prog 39 #[.slice A n cap] w (fun e w' => ∃ v, e = .returned v ∧ wireWrites.Now w' w.heap.size v (goF its (min its.length 60)) ∧ Keeps None w w') := by
  subst hn
  have HR := Lib.hid hraw
  clear hraw
  obtain ⟨i3, hi, hz0, hz1, hz2⟩ := info_parts wireWrites.Try.infoItem
  go_enter Try.func39, Try.ntmps39
  go_wp2
  go_loopw [3, 4] (fun y i wr => ∃ (k : Nat), k ≤ its.length ∧ k ≤ 60 ∧ i = .int .i64 k ∧ wireWrites.Now wr w.heap.size y (goF its k) ∧ Keeps None w wr) (fun _ i _ => 60 - (intOf i).toNat)
  case atStart => exact ⟨0, by omega, by omega, rfl, by rw [goF_zero]; exact wireWrites.Now.nil _ _, Keeps.refl _ _⟩
  case round =>
    obtain ⟨k, hk, hk6, rfl, hN, hK⟩ := hrel
    have hs := hK.size
    obtain ⟨AN, cN, rfl, -⟩ := hN.open_
    by_cases hlt : k < its.length ∧ k < 60
    · obtain ⟨hlt1, hlt2⟩ := hlt
      obtain ⟨x, hx⟩ : ∃ x, its[k]? = some x := ⟨_, List.getElem?_eq_getElem hlt1⟩
      have raw := HR.out x (List.mem_of_getElem? hx)
      have HY := Lib.hid (fun h => goF_yes hx h)
      have HNo := Lib.hid (fun h => goF_no hx h)
      obtain ⟨kind, nn, Ax, lx, cx, bs⟩ := x
      obtain ⟨b, o, rfl, c0, c1, c2⟩ := (hA.grew hK) k _ hx
      clear hx
      simp only at c0 c1 c2
      have hnn := raw.n
      simp only at hnn
      have hgl := goF_len its k
      obtain ⟨got, hgot⟩ : ∃ got, got = goF its k := ⟨_, rfl⟩
      rw [← hgot] at hN hgl ⊢
      have HG := Lib.hid hgot
      clear hgot raw
      go_wp2_with fail
      refine (right_any kind nn Ax lx cx wr hnn).mono ?_
      rintro e w1 ⟨rfl, hk1⟩
      obtain ⟨K, hKe⟩ : ∃ K, K = rightK kind := ⟨_, rfl⟩
      obtain ⟨M, hMe⟩ : ∃ M, M = rightN kind nn := ⟨_, rfl⟩
      rw [← hKe, ← hMe]
      have HK := Lib.hid hKe
      have HM := Lib.hid hMe
      clear hKe hMe c0 c1 c2
      have hN1 : wireWrites.Now (w1.alloc (.cells #[.int .i64 K, .int .i64 M, .slice Ax lx cx] 32)) w.heap.size (.slice AN got.length cN) got := (hN.keeps hk1 (fun _ _ f => f)).keeps ((Keeps.refl None w1).alloc _) (fun _ _ f => f)
      have hK1 : Keeps None w (w1.alloc (.cells #[.int .i64 K, .int .i64 M, .slice Ax lx cx] 32)) := (hK.trans hk1).alloc _
      have hs1 := hK1.size
      have bx := Blk.new w1 32 [.int .i64 K, .int .i64 M, .slice Ax lx cx]
      have d0 := bx.cell 0 _ rfl
      have d1 := bx.cell 1 _ rfl
      have d2 := bx.cell 2 _ rfl
      by_cases hl : lx ≤ 2000
      · have HY2 := Lib.hid (HY.out hl)
        clear HY HNo hN
        go_wp2_with (at_builtin; refine wpList_append_row _ rfl (.tmp 25) (.tmp 27) 28 rfl w.heap.size 32 i3 (.agg #[.int .i64 0, .int .i64 0, .slice Option.none 0 0]) 3 40 Try.underlying28 hi hz0 hz1 hz2 rfl (by decide) _ got.length _ rfl (hN1.keeps ((Keeps.refl None _).alloc _) (fun _ _ f => f)) (some ⟨(w1.alloc (.cells #[.int .i64 K, .int .i64 M, .slice Ax lx cx] 32)).heap.size, 0, Option.none⟩) 1 1 [.int .i64 K, .int .i64 M, .slice Ax lx cx] (by simp [Act.eval]) rfl (fun e => by cases e) (src_new (w1.alloc (.cells #[.int .i64 K, .int .i64 M, .slice Ax lx cx] 32)) 32 _ _ rfl) (by intro u hu; simp at hu; rcases hu with rfl | rfl | rfl <;> rfl) (by unfold maxLen; omega) (by omega) (by simp at hs1 ⊢; omega) ?_; intro v3 w3 hown hk3 hloc)
        have hlt3 : ∀ b, (Value.slice AN got.length cN).ownBlock = some b → w.heap.size ≤ b := fun b e => (World.ownsRow.lt hN1 b e).1
        have hKf : Keeps None w w3 := (hK1.alloc _).andThen hk3 (fun i hi e => by have := hlt3 i e; omega)
        go_roundw
        case rel =>
          refine ⟨k + 1, by omega, by omega, by go_num, ?_, hKf⟩
          rw [HY2.out, ← HG.out]
          unfold wireWrites.Now
          rw [List.length_append, wireWrites.itCells_snoc]
          unfold rightIt
          dsimp only
          rw [← HK.out, ← HM.out]
          exact hown
        case measure => simp [intOf]; omega
      · have HN2 := Lib.hid (HNo.out hl)
        clear HY HNo hN
        go_wp2_with fail
        go_roundw
        case rel => exact ⟨k + 1, by omega, by omega, by go_num, by rw [HN2.out, ← HG.out]; exact hN1, hK1⟩
        case measure => simp [intOf]; omega
    · have hfin : goF its k = goF its (min its.length 60) := by
        have : k = min its.length 60 := by omega
        rw [this]
      have HF := Lib.hid hfin
      clear hfin
      by_cases hlt1 : k < its.length
      all_goals
        go_wp2
        go_ret
        exact ⟨_, rfl, by rw [← HF.out]; exact hN, hK⟩
end Go.Proofs.Ytnhhmkgcgogddaa
