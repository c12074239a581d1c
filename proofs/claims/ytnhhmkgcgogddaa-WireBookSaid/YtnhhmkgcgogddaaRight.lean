/- cairnlaw1.right, cairnlaw1.read. -/
import Derived.Test.YtnhhmkgcgogddaaBackLaw
import Derived.Test.YtnhhmkgcgogddaaRRead
namespace Go.Proofs.Ytnhhmkgcgogddaa
open Go.RowKit Go.Proofs.YtnhhmkgcgogddaaW.PrintLast
set_option linter.unusedVariables false

def rightK (kind : Int) : Int := if 1 ≤ kind ∧ kind ≤ 4 then kind else 2
def rightN (kind n : Int) : Int := if kind = 1 ∧ n < 0 then -(n + 1) else n

theorem item_new2 (w : World) (o : Obj) (cs : List Value) (t : TypeId) : ((w.alloc o).alloc (.cells cs.toArray t)).heap[w.heap.size + 1]? = some (.cells cs.toArray t) := by
  have := Blk.new (w.alloc o) t cs
  rw [World.size_alloc] at this
  exact this

def RightEnd (kind n : Int) (A : Option Addr) (len cap : Nat) (w : World) (e : Ending) (w' : World) : Prop :=
  e = .returned (.agg #[.int .i64 (rightK kind), .int .i64 (rightN kind n), .slice A len cap]) ∧ Keeps None w w'

set_option maxRecDepth 100000 in
set_option maxHeartbeats 1600000 in
theorem right_any (kind n : Int) (A : Option Addr) (len cap : Nat) (w : World) (hn : -9223372036854775808 ≤ n ∧ n ≤ 9223372036854775807) :
    Calls Try.prog 29 #[.agg #[.int .i64 kind, .int .i64 n, .slice A len cap]] w (RightEnd kind n A len cap w) := by
  by_cases h1 : kind = 1
  · subst h1
    by_cases hneg : n < 0
    · have e1 : rightN 1 n = -(n + 1) := if_pos ⟨rfl, hneg⟩
      unfold RightEnd
      rw [e1, show rightK 1 = 1 from rfl]
      clear e1
      go_enter Try.func29, Try.ntmps29
      go_wp2_with fail
      refine bodyPost_ret (results_cell_row rfl _ _ (w.heap.size + 1) 32 #[.int .i64 1, .int .i64 (-(n + 1)), .slice A len cap] (0, 0) _ rfl (item_new2 w _ [.int .i64 1, .int .i64 (-(n + 1)), .slice A len cap] 32) Try.underlying32 rfl Try.sizeIt) rfl ⟨rfl, ((Keeps.refl _ _).alloc _).alloc _⟩
    · have e1 : rightN 1 n = n := if_neg (fun h => hneg h.2)
      unfold RightEnd
      rw [e1, show rightK 1 = 1 from rfl]
      clear e1
      go_enter Try.func29, Try.ntmps29
      go_wp2_with fail
      refine bodyPost_ret (results_cell_row rfl _ _ (w.heap.size + 1) 32 #[.int .i64 1, .int .i64 n, .slice A len cap] (0, 0) _ rfl (item_new2 w _ [.int .i64 1, .int .i64 n, .slice A len cap] 32) Try.underlying32 rfl Try.sizeIt) rfl ⟨rfl, ((Keeps.refl _ _).alloc _).alloc _⟩
  · have e1 : rightN kind n = n := if_neg (fun h => h1 h.1)
    obtain ⟨t1, t2⟩ := test_ne h1
    unfold RightEnd
    rw [e1]
    by_cases hlo : kind < 1
    · rw [show rightK kind = 2 from if_neg (by omega)]
      clear e1
      go_enter Try.func29, Try.ntmps29
      go_wp2_with fail
      refine bodyPost_ret (results_cell_row rfl _ _ (w.heap.size + 1) 32 #[.int .i64 2, .int .i64 n, .slice A len cap] (0, 0) _ rfl (item_new2 w _ [.int .i64 2, .int .i64 n, .slice A len cap] 32) Try.underlying32 rfl Try.sizeIt) rfl ⟨rfl, ((Keeps.refl _ _).alloc _).alloc _⟩
    · by_cases hhi : 4 < kind
      · rw [show rightK kind = 2 from if_neg (by omega)]
        clear e1
        go_enter Try.func29, Try.ntmps29
        go_wp2_with fail
        refine bodyPost_ret (results_cell_row rfl _ _ (w.heap.size + 1) 32 #[.int .i64 2, .int .i64 n, .slice A len cap] (0, 0) _ rfl (item_new2 w _ [.int .i64 2, .int .i64 n, .slice A len cap] 32) Try.underlying32 rfl Try.sizeIt) rfl ⟨rfl, ((Keeps.refl _ _).alloc _).alloc _⟩
      · rw [show rightK kind = kind from if_pos (by omega)]
        clear e1
        go_enter Try.func29, Try.ntmps29
        go_wp2_with fail
        refine bodyPost_ret (results_cell_row rfl _ _ (w.heap.size + 1) 32 #[.int .i64 kind, .int .i64 n, .slice A len cap] (0, 0) _ rfl (item_new2 w _ [.int .i64 kind, .int .i64 n, .slice A len cap] 32) Try.underlying32 rfl Try.sizeIt) rfl ⟨rfl, ((Keeps.refl _ _).alloc _).alloc _⟩

/-- What one thing out of the program's reader is. -/
def ReadEnd (kind n : Int) (bs : List Int) (s' : St) (g base : Nat) (v : Value) (zs : List Int) (w : World) (e : Ending) (w' : World) : Prop :=
  ∃ A2 c2, e = .returned (.agg #[.int .i64 kind, .int .i64 n, .slice A2 bs.length c2]) ∧ Nums .u8 w' A2 bs ∧ (A2 = Option.none → c2 = 0) ∧ (∀ b o, A2 = some ⟨b, o, Option.none⟩ → w.heap.size ≤ b ∧ b < w'.heap.size) ∧ s'.at w' g base v zs ∧ Keeps (One g) w w'

set_option maxRecDepth 100000 in
set_option maxHeartbeats 1600000 in
theorem cread_num (g base : Nat) (v : Value) (zs : List Int) (s : St) (w : World) (h : s.at w g base v zs) (hr : zs.length ≤ 140737488351232) (hb : Bytes zs) :
    Calls Try.prog 33 #[.pointer (some ⟨g, 0, Option.none⟩), .int .i64 1] w (ReadEnd 1 ((numStep zs s).1) ([]) (numStep zs s).2 g base v zs w) := by
  obtain ⟨x, hx⟩ : ∃ x, x = numStep zs s := ⟨_, rfl⟩
  have hP := fun w h => rNum_any g base v zs s w h hr hb
  skip
  rw [← hx] at hP ⊢
  have HP := Lib.hid hP
  obtain ⟨R, hR⟩ : ∃ R, R = ReadEnd 1 (x.1) ([]) x.2 g base v zs w := ⟨_, rfl⟩
  rw [← hR]
  have HR := Lib.hid hR
  clear hP hx hR
  have hgl : g < w.heap.size := Blk.lt (Rd.blk h)
  obtain ⟨hk, hz, hxb⟩ := itemW_facts w 1
  unfold itemW at hk hz hxb
  have h1 : s.at _ g base v zs := Rd.grew h hk
  have HS := Lib.hid (show w.heap.size + 1 < ((w.alloc (.cells #[.int .i64 0, .int .i64 0, .slice Option.none 0 0] 32)).alloc (.cells #[.int .i64 1, .int .i64 0, .slice Option.none 0 0] 32)).heap.size from hxb.lt)
  go_enter Try.func33, Try.ntmps33
  go_wp2_with fail
  refine (HP.out _ h1).mono ?_
  rintro e w2 ⟨rfl, h2, hk2⟩
  have hz2 := hz.keeps hk2 (fun e => by have : w.heap.size = g := e; omega)
  have hx2 := hxb.keeps hk2 (fun e => by have : w.heap.size + 1 = g := e; omega)
  have hK2 := hk.of_none.trans hk2
  skip
  have z0 := hz2.cell 0 _ rfl
  have z1 := hz2.cell 1 _ rfl
  have z2 := hz2.cell 2 _ rfl
  have y0 := hz2.free 0
  have y1 := hz2.free 1
  have y2 := hz2.free 2
  have x0 := hx2.cell 0 _ rfl
  have x1 := hx2.cell 1 _ rfl
  have x2 := hx2.cell 2 _ rfl
  have u1 := hx2.free 1
  go_wp2_with fail
  refine bodyPost_ret (results_cell_row rfl _ _ w.heap.size 32 #[.int .i64 1, .int .i64 x.1, .slice Option.none 0 0] (0, 0) _ rfl ((((hz2.other ⟨w.heap.size + 1, 1, Option.none⟩ (.int .i64 x.1) (by simp)).set 0 (.int .i64 1)).set 1 (.int .i64 x.1)).set 2 (.slice Option.none 0 0)).raw Try.underlying32 rfl Try.sizeIt) rfl ?_
  rw [HR.out]
  have kf : Keeps (Two2 w.heap.size (w.heap.size + 1)) w2 ((((w2.setCell ⟨w.heap.size + 1, 1, Option.none⟩ (.int .i64 x.1)).setCell ⟨w.heap.size, 0, Option.none⟩ (.int .i64 1)).setCell ⟨w.heap.size, 1, Option.none⟩ (.int .i64 x.1)).setCell ⟨w.heap.size, 2, Option.none⟩ (.slice Option.none 0 0)) :=
    ((((Keeps.refl _ _).setCell ⟨w.heap.size + 1, 1, Option.none⟩ _ (fun _ => .inr rfl)).setCell ⟨w.heap.size, 0, Option.none⟩ _ (fun _ => .inl rfl)).setCell ⟨w.heap.size, 1, Option.none⟩ _ (fun _ => .inl rfl)).setCell ⟨w.heap.size, 2, Option.none⟩ _ (fun _ => .inl rfl)
  exact ⟨Option.none, 0, rfl, Nums.nil _ _ _, fun _ => rfl, (fun b o e => by cases e), Rd.keeps h2 kf (fun e => by rcases e with e | e <;> omega) (fun b e f => by have := ((Rd.row h).lt b e).2; rcases f with f | f <;> omega), hK2.andThen kf (fun i hi e => by rcases e with e | e <;> omega)⟩

set_option maxRecDepth 100000 in
set_option maxHeartbeats 1600000 in
theorem cread_int (g base : Nat) (v : Value) (zs : List Int) (s : St) (w : World) (h : s.at w g base v zs) (hr : zs.length ≤ 140737488351232) (hb : Bytes zs) :
    Calls Try.prog 33 #[.pointer (some ⟨g, 0, Option.none⟩), .int .i64 2] w (ReadEnd 2 ((intStep zs s).1) ([]) (intStep zs s).2 g base v zs w) := by
  obtain ⟨x, hx⟩ : ∃ x, x = intStep zs s := ⟨_, rfl⟩
  have hP := fun w h => rInt_any g base v zs s w h hr hb
  skip
  rw [← hx] at hP ⊢
  have HP := Lib.hid hP
  obtain ⟨R, hR⟩ : ∃ R, R = ReadEnd 2 (x.1) ([]) x.2 g base v zs w := ⟨_, rfl⟩
  rw [← hR]
  have HR := Lib.hid hR
  clear hP hx hR
  have hgl : g < w.heap.size := Blk.lt (Rd.blk h)
  obtain ⟨hk, hz, hxb⟩ := itemW_facts w 2
  unfold itemW at hk hz hxb
  have h1 : s.at _ g base v zs := Rd.grew h hk
  have HS := Lib.hid (show w.heap.size + 1 < ((w.alloc (.cells #[.int .i64 0, .int .i64 0, .slice Option.none 0 0] 32)).alloc (.cells #[.int .i64 2, .int .i64 0, .slice Option.none 0 0] 32)).heap.size from hxb.lt)
  go_enter Try.func33, Try.ntmps33
  go_wp2_with fail
  refine (HP.out _ h1).mono ?_
  rintro e w2 ⟨rfl, h2, hk2⟩
  have hz2 := hz.keeps hk2 (fun e => by have : w.heap.size = g := e; omega)
  have hx2 := hxb.keeps hk2 (fun e => by have : w.heap.size + 1 = g := e; omega)
  have hK2 := hk.of_none.trans hk2
  skip
  have z0 := hz2.cell 0 _ rfl
  have z1 := hz2.cell 1 _ rfl
  have z2 := hz2.cell 2 _ rfl
  have y0 := hz2.free 0
  have y1 := hz2.free 1
  have y2 := hz2.free 2
  have x0 := hx2.cell 0 _ rfl
  have x1 := hx2.cell 1 _ rfl
  have x2 := hx2.cell 2 _ rfl
  have u1 := hx2.free 1
  go_wp2_with fail
  refine bodyPost_ret (results_cell_row rfl _ _ w.heap.size 32 #[.int .i64 2, .int .i64 x.1, .slice Option.none 0 0] (0, 0) _ rfl ((((hz2.other ⟨w.heap.size + 1, 1, Option.none⟩ (.int .i64 x.1) (by simp)).set 0 (.int .i64 2)).set 1 (.int .i64 x.1)).set 2 (.slice Option.none 0 0)).raw Try.underlying32 rfl Try.sizeIt) rfl ?_
  rw [HR.out]
  have kf : Keeps (Two2 w.heap.size (w.heap.size + 1)) w2 ((((w2.setCell ⟨w.heap.size + 1, 1, Option.none⟩ (.int .i64 x.1)).setCell ⟨w.heap.size, 0, Option.none⟩ (.int .i64 2)).setCell ⟨w.heap.size, 1, Option.none⟩ (.int .i64 x.1)).setCell ⟨w.heap.size, 2, Option.none⟩ (.slice Option.none 0 0)) :=
    ((((Keeps.refl _ _).setCell ⟨w.heap.size + 1, 1, Option.none⟩ _ (fun _ => .inr rfl)).setCell ⟨w.heap.size, 0, Option.none⟩ _ (fun _ => .inl rfl)).setCell ⟨w.heap.size, 1, Option.none⟩ _ (fun _ => .inl rfl)).setCell ⟨w.heap.size, 2, Option.none⟩ _ (fun _ => .inl rfl)
  exact ⟨Option.none, 0, rfl, Nums.nil _ _ _, fun _ => rfl, (fun b o e => by cases e), Rd.keeps h2 kf (fun e => by rcases e with e | e <;> omega) (fun b e f => by have := ((Rd.row h).lt b e).2; rcases f with f | f <;> omega), hK2.andThen kf (fun i hi e => by rcases e with e | e <;> omega)⟩

set_option maxRecDepth 100000 in
set_option maxHeartbeats 1600000 in
theorem cread_byt (g base : Nat) (v : Value) (zs : List Int) (s : St) (w : World) (h : s.at w g base v zs) (hr : zs.length ≤ 140737488351232) (hb : Bytes zs) :
    Calls Try.prog 33 #[.pointer (some ⟨g, 0, Option.none⟩), .int .i64 3] w (ReadEnd 3 (0) ((bytStep zs s).1) (bytStep zs s).2 g base v zs w) := by
  obtain ⟨x, hx⟩ : ∃ x, x = bytStep zs s := ⟨_, rfl⟩
  have hP := fun w h => rByt_any g base v zs s w h hr hb
  skip
  rw [← hx] at hP ⊢
  have HP := Lib.hid hP
  obtain ⟨R, hR⟩ : ∃ R, R = ReadEnd 3 (0) (x.1) x.2 g base v zs w := ⟨_, rfl⟩
  rw [← hR]
  have HR := Lib.hid hR
  clear hP hx hR
  have hgl : g < w.heap.size := Blk.lt (Rd.blk h)
  obtain ⟨hk, hz, hxb⟩ := itemW_facts w 3
  unfold itemW at hk hz hxb
  have h1 : s.at _ g base v zs := Rd.grew h hk
  have HS := Lib.hid (show w.heap.size + 1 < ((w.alloc (.cells #[.int .i64 0, .int .i64 0, .slice Option.none 0 0] 32)).alloc (.cells #[.int .i64 3, .int .i64 0, .slice Option.none 0 0] 32)).heap.size from hxb.lt)
  go_enter Try.func33, Try.ntmps33
  go_wp2_with fail
  refine (HP.out _ h1).mono ?_
  rintro e w2 ⟨v2, rfl, hv2, h2, hk2⟩
  obtain ⟨A2, c2, rfl, -, n2, nn2, no2, -⟩ := hv2.open_
  have hz2 := hz.keeps hk2 (fun e => by have : w.heap.size = g := e; omega)
  have hx2 := hxb.keeps hk2 (fun e => by have : w.heap.size + 1 = g := e; omega)
  have hK2 := hk.of_none.trans hk2
  have hs2 := hk2.size
  have hs3 := HS.out
  clear hv2
  have z0 := hz2.cell 0 _ rfl
  have z1 := hz2.cell 1 _ rfl
  have z2 := hz2.cell 2 _ rfl
  have y0 := hz2.free 0
  have y1 := hz2.free 1
  have y2 := hz2.free 2
  have x0 := hx2.cell 0 _ rfl
  have x1 := hx2.cell 1 _ rfl
  have x2 := hx2.cell 2 _ rfl
  have u1 := hx2.free 2
  go_wp2_with fail
  refine bodyPost_ret (results_cell_row rfl _ _ w.heap.size 32 #[.int .i64 3, .int .i64 0, .slice A2 x.1.length c2] (0, 0) _ rfl ((((hz2.other ⟨w.heap.size + 1, 2, Option.none⟩ (.slice A2 x.1.length c2) (by simp)).set 0 (.int .i64 3)).set 1 (.int .i64 0)).set 2 (.slice A2 x.1.length c2)).raw Try.underlying32 rfl Try.sizeIt) rfl ?_
  rw [HR.out]
  have kf : Keeps (Two2 w.heap.size (w.heap.size + 1)) w2 ((((w2.setCell ⟨w.heap.size + 1, 2, Option.none⟩ (.slice A2 x.1.length c2)).setCell ⟨w.heap.size, 0, Option.none⟩ (.int .i64 3)).setCell ⟨w.heap.size, 1, Option.none⟩ (.int .i64 0)).setCell ⟨w.heap.size, 2, Option.none⟩ (.slice A2 x.1.length c2)) :=
    ((((Keeps.refl _ _).setCell ⟨w.heap.size + 1, 2, Option.none⟩ _ (fun _ => .inr rfl)).setCell ⟨w.heap.size, 0, Option.none⟩ _ (fun _ => .inl rfl)).setCell ⟨w.heap.size, 1, Option.none⟩ _ (fun _ => .inl rfl)).setCell ⟨w.heap.size, 2, Option.none⟩ _ (fun _ => .inl rfl)
  have hsf := kf.size
  exact ⟨A2, c2, rfl, n2.keeps kf (fun b o e f => by have := (no2 b o e).2.1; rcases f with f | f <;> omega), nn2, (fun b o e => by have := (no2 b o e).2; omega), Rd.keeps h2 kf (fun e => by rcases e with e | e <;> omega) (fun b e f => by have := ((Rd.row h).lt b e).2; rcases f with f | f <;> omega), hK2.andThen kf (fun i hi e => by rcases e with e | e <;> omega)⟩

theorem strOfNums_size (bs : List Int) : (strOfNums bs).size = bs.length := by
  simp [strOfNums, ByteArray.size]

/-- A string's bytes anew. -/
theorem conv_back (w : World) (bs : List Int) (hb : Bytes bs) : ∃ w' A2 c2, (convert 9 23 (.string (strOfNums bs))).run Try.prog w = .ok (.slice A2 bs.length c2) w' ∧ Nums .u8 w' A2 bs ∧ (A2 = Option.none → c2 = 0) ∧ (∀ b o, A2 = some ⟨b, o, Option.none⟩ → w.heap.size ≤ b ∧ b < w'.heap.size) ∧ Keeps None w w' := by
  have hr := run_bytes_of_string (P := Try.prog) w 9 23 5 (strOfNums bs) Try.underlying9 Try.underlying23 Try.underlying5
  rw [strOfNums_size] at hr
  refine ⟨_, _, _, hr, ?_, (fun e => by cases e), (fun b o e => by cases e; exact ⟨Nat.le_refl _, by simp⟩), (Keeps.refl _ _).drew.alloc _⟩
  intro j hj
  refine ⟨_, 0, rfl, ?_⟩
  rw [Nat.zero_add, cell_of_row _ w.heap.size j _ 5 _ (heap_alloc_new w.drew _)]
  have hc := hb bs[j] (List.getElem_mem hj)
  unfold bytesRow
  rw [Array.getElem?_append_left (by simp [strOfNums]; exact hj)]
  simp [strOfNums, hj, List.getD]
  omega

set_option maxRecDepth 100000 in
set_option maxHeartbeats 1600000 in
theorem cread_txt (g base : Nat) (v : Value) (zs : List Int) (s : St) (w : World) (h : s.at w g base v zs) (hr : zs.length ≤ 140737488351232) (hb : Bytes zs) :
    Calls Try.prog 33 #[.pointer (some ⟨g, 0, Option.none⟩), .int .i64 4] w (ReadEnd 4 (0) ((bytStep zs s).1) (bytStep zs s).2 g base v zs w) := by
  obtain ⟨x, hx⟩ : ∃ x, x = bytStep zs s := ⟨_, rfl⟩
  have hP := fun w h => rtext_any g base v zs s w h hr hb
  have hby := bytStep_bytes zs s hb
  rw [← hx] at hby
  rw [← hx] at hP ⊢
  have HP := Lib.hid hP
  obtain ⟨R, hR⟩ : ∃ R, R = ReadEnd 4 (0) (x.1) x.2 g base v zs w := ⟨_, rfl⟩
  rw [← hR]
  have HR := Lib.hid hR
  clear hP hx hR
  have hgl : g < w.heap.size := Blk.lt (Rd.blk h)
  obtain ⟨hk, hz, hxb⟩ := itemW_facts w 4
  unfold itemW at hk hz hxb
  have h1 : s.at _ g base v zs := Rd.grew h hk
  have HS := Lib.hid (show w.heap.size + 1 < ((w.alloc (.cells #[.int .i64 0, .int .i64 0, .slice Option.none 0 0] 32)).alloc (.cells #[.int .i64 4, .int .i64 0, .slice Option.none 0 0] 32)).heap.size from hxb.lt)
  go_enter Try.func33, Try.ntmps33
  go_wp2_with fail
  refine (HP.out _ h1).mono ?_
  rintro e w2 ⟨rfl, h2, hk2⟩
  have hz2 := hz.keeps hk2 (fun e => by have : w.heap.size = g := e; omega)
  have hx2 := hxb.keeps hk2 (fun e => by have : w.heap.size + 1 = g := e; omega)
  have hK2 := hk.of_none.trans hk2
  have hcv := conv_back w2 x.1 hby
  obtain ⟨w3, A2, c2, hcv, n2, nn2, no2, hk3⟩ := hcv
  have hz2 := hz2.grew hk3
  have hx2 := hx2.grew hk3
  have hK2 := hK2.trans hk3.of_none
  have h2 : x.2.at w3 g base v zs := Rd.grew h2 hk3
  have hs2 := hk2.size
  have hs3 := HS.out
  have hs4 := hk3.size
  clear hby
  have z0 := hz2.cell 0 _ rfl
  have z1 := hz2.cell 1 _ rfl
  have z2 := hz2.cell 2 _ rfl
  have y0 := hz2.free 0
  have y1 := hz2.free 1
  have y2 := hz2.free 2
  have x0 := hx2.cell 0 _ rfl
  have x1 := hx2.cell 1 _ rfl
  have x2 := hx2.cell 2 _ rfl
  have u1 := hx2.free 2
  go_wp2_with fail
  refine bodyPost_ret (results_cell_row rfl _ _ w.heap.size 32 #[.int .i64 4, .int .i64 0, .slice A2 x.1.length c2] (0, 0) _ rfl ((((hz2.other ⟨w.heap.size + 1, 2, Option.none⟩ (.slice A2 x.1.length c2) (by simp)).set 0 (.int .i64 4)).set 1 (.int .i64 0)).set 2 (.slice A2 x.1.length c2)).raw Try.underlying32 rfl Try.sizeIt) rfl ?_
  rw [HR.out]
  have kf : Keeps (Two2 w.heap.size (w.heap.size + 1)) w3 ((((w3.setCell ⟨w.heap.size + 1, 2, Option.none⟩ (.slice A2 x.1.length c2)).setCell ⟨w.heap.size, 0, Option.none⟩ (.int .i64 4)).setCell ⟨w.heap.size, 1, Option.none⟩ (.int .i64 0)).setCell ⟨w.heap.size, 2, Option.none⟩ (.slice A2 x.1.length c2)) :=
    ((((Keeps.refl _ _).setCell ⟨w.heap.size + 1, 2, Option.none⟩ _ (fun _ => .inr rfl)).setCell ⟨w.heap.size, 0, Option.none⟩ _ (fun _ => .inl rfl)).setCell ⟨w.heap.size, 1, Option.none⟩ _ (fun _ => .inl rfl)).setCell ⟨w.heap.size, 2, Option.none⟩ _ (fun _ => .inl rfl)
  have hsf := kf.size
  exact ⟨A2, c2, rfl, n2.keeps kf (fun b o e f => by have := (no2 b o e).1; rcases f with f | f <;> omega), nn2, (fun b o e => by have := no2 b o e; omega), Rd.keeps h2 kf (fun e => by rcases e with e | e <;> omega) (fun b e f => by have := ((Rd.row h).lt b e).2; rcases f with f | f <;> omega), hK2.andThen kf (fun i hi e => by rcases e with e | e <;> omega)⟩

end Go.Proofs.Ytnhhmkgcgogddaa
