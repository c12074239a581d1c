/- The law's put and done: one thing into the writer; what the writer tells. -/
import Derived.Test.YtnhhmkgcgogddaaRefDone
import Derived.Test.YtnhhmkgcgogddaaLend
namespace Go.Proofs.Ytnhhmkgcgogddaa
open Go.RowKit

/-- A conversion to a string, whatever the slice. -/
theorem conv_nums (w : World) (A : Option Addr) (len cap : Nat) (bs : List Int) (hA : Nums .u8 w A bs) (hl : bs.length = len) :
    (convert 23 9 (.slice A len cap)).run Try.prog w = .ok (.string (strOfNums bs)) w := by
  subst hl
  cases A with
  | none =>
    have h0 : bs = [] := by
      cases bs with
      | nil => rfl
      | cons y ys => obtain ⟨b, o, e, _⟩ := hA 0 (by simp); cases e
    subst h0
    exact run_convert_bytes_nil w 23 5 Try.underlying23 Try.underlying5 _ _ _ Try.underlying9
  | some ad =>
    have hl : (loadCells ad bs.length).run Try.prog w = .ok (bs.map (Value.int .u8)).toArray w := by
      have := run_loadCells_list (P := Try.prog) w ad (bs.map (Value.int .u8)) (fun j v hv => by
        obtain ⟨ad', e, hc⟩ := hA.src (by have := (List.getElem?_eq_some_iff.1 hv).1; omega)
        cases e
        exact hc j v hv)
      simpa using this
    rw [run_convert_bytes_string w _ _ _ _ _ _ Try.underlying23 Try.underlying5 Try.underlying9, run_bytesToString w _ _ cap bs hl, foldl_push_bytes]
    simp [strOfNums, ByteArray.empty, ByteArray.emptyWithCapacity]
    rfl

/-- The end of one thing's putting. -/
def Putting (g base : Nat) (v : Value) (bad : Bool) (zs : List Int) (w : World) (e : Ending) (w' : World) : Prop :=
  e = .returned (.bool true) ∧ ∃ v', Wr w' g base v' bad zs ∧ Keeps (Wt g v) w w' ∧ (∀ b, v'.ownBlock = some b → v.ownBlock = some b ∨ w.heap.size ≤ b)

set_option maxRecDepth 100000 in
set_option maxHeartbeats 1600000 in
theorem putting_any (g base : Nat) (v : Value) (bad : Bool) (zs : List Int) (kind n : Int) (A : Option Addr) (len cap : Nat) (bs : List Int) (w : World) (hw : Wr w g base v bad zs) (hb : base ≤ w.heap.size) (hA : ∀ w', Keeps (Wt g v) w w' → Nums .u8 w' A bs) (hl : bs.length = len) (hlen : len ≤ 65536) (hB : Bytes bs)
    (hn : -9223372036854775808 ≤ n ∧ n ≤ 9223372036854775807) (hk : 1 ≤ kind ∧ kind ≤ 4) (hr : zs.length + 70000 ≤ 140737488355328) :
    Calls Try.prog 19 #[.pointer (some ⟨g, 0, Option.none⟩), .agg #[.int .i64 kind, .int .i64 n, .slice A len cap]] w (Putting g base v (if kind = 1 ∧ n < 0 then true else bad) (if kind = 1 ∧ n < 0 then zs else zs ++ itemF kind n bs) w) := by
  subst hl
  obtain ⟨bad1, eb⟩ : ∃ B, B = (if kind = 1 ∧ n < 0 then true else bad) := ⟨_, rfl⟩
  obtain ⟨zs1, ez⟩ : ∃ Z, Z = (if kind = 1 ∧ n < 0 then zs else zs ++ itemF kind n bs) := ⟨_, rfl⟩
  rw [← eb, ← ez]
  have EB := Lib.hid eb
  have EZ := Lib.hid ez
  clear eb ez
  have hB0 : Blk (w.alloc (.cells #[.int .i64 kind, .int .i64 n, .slice A bs.length cap] 32)) w.heap.size 32 [.int .i64 kind, .int .i64 n, .slice A bs.length cap] := Blk.new w _ _
  have hk0 : Keeps None w (w.alloc (.cells #[.int .i64 kind, .int .i64 n, .slice A bs.length cap] 32)) := (Keeps.refl _ _).alloc _
  have hsz0 : (w.alloc (.cells #[.int .i64 kind, .int .i64 n, .slice A bs.length cap] 32)).heap.size = w.heap.size + 1 := by simp
  have HB0 := Lib.hid hB0
  have HK0 := Lib.hid hk0
  have HS0 := Lib.hid hsz0
  clear hB0 hk0 hsz0
  go_enter Try.func19, Try.ntmps19
  go_wp2_with fail
  refine (lend_any A bs.length cap bs _ ((hA w (Keeps.refl _ _)).grew HK0.out) rfl (by omega)).mono ?_
  rintro e w1 ⟨gl, rfl, hgl, hL, hk1⟩
  rw [HS0.out] at hgl
  have hBx := HB0.out.grew hk1
  have hK1 := HK0.out.trans hk1
  have hw1 := hw.grew hK1
  have hvg := fun b (h : v.ownBlock = some b) => (hw.2.1.lt b h).2
  have hgw := hw.1.lt
  have c0 := hBx.cell 0 _ rfl
  have c1 := hBx.cell 1 _ rfl
  have c2 := hBx.cell 2 _ rfl
  have hs1 := hK1.size
  have hoff : Off (some ⟨gl, 0, Option.none⟩) (Wt g v) := by
    intro b o e f
    cases e
    rcases f with f | f
    · omega
    · have := hvg _ f; omega
  have hxoff : ¬ Wt g v w.heap.size := by
    rintro (f | f)
    · omega
    · have := hvg _ f; omega
  have hgloff : ¬ Wt g v gl := fun f => hoff gl 0 rfl f
  clear HB0 HK0 HS0 hk1
  have fin : ∀ (bad' : Bool) (zs' : List Int) (w3 w4 : World) (v3 : Value), Wr w3 g base v3 bad' zs' → Keeps (Wt g v) w1 w3 → (∀ b, v3.ownBlock = some b → v.ownBlock = some b ∨ w1.heap.size ≤ b) → Keeps (One gl) w3 w4 → Putting g base v bad' zs' w (.returned (.bool true)) w4 := by
    intro bad' zs' w3 w4 v3 h3 hk3 hn3 hk4
    have hgl1 := hL.lt
    refine ⟨rfl, v3, h3.keeps hk4 (fun e => by cases e; omega) (fun b hb' e => ?_), ?_, ?_⟩
    · cases e
      rcases hn3 _ hb' with h | h
      · have := hvg _ h; omega
      · omega
    · exact (hK1.of_none.trans hk3).andThen hk4 (fun i hi e => by cases e; omega)
    · intro b hb'
      rcases hn3 b hb' with h | h
      · exact .inl h
      · right; omega
  have FIN := Lib.hid fin
  clear fin
  rcases (by omega : kind = 1 ∨ kind = 2 ∨ kind = 3 ∨ kind = 4) with rfl | rfl | rfl | rfl
  · go_wp2_with fail
    refine (wnum_any g base v bad zs n w1 hw1 (by omega) hn (by omega)).mono ?_
    rintro e w3 ⟨rfl, v3, h3, hk3, hn3⟩
    have hc2 := (hBx.keeps hk3 hxoff).cell 2 _ rfl
    clear hw1
    go_wp2_with fail
    refine (back_any gl bs.length bs A bs.length cap w3 (hL.keeps hk3 hgloff) rfl (hA w3 (hK1.of_none.trans hk3)) rfl (by omega)).mono ?_
    rintro e w4 ⟨rfl, -, hk4⟩
    go_wp2_with fail
    go_ret
    refine FIN.out _ _ w3 w4 v3 ?_ hk3 hn3 hk4
    rw [EB.out, EZ.out]
    by_cases hneg : n < 0
    · rw [if_pos (by simpa using hneg), if_pos (by simpa using hneg)]
      rw [if_pos hneg, if_pos hneg] at h3
      exact h3
    · rw [if_neg (fun h => hneg h.2), if_neg (fun h => hneg h.2)]
      rw [if_neg hneg, if_neg hneg] at h3
      exact h3
  · go_wp2_with fail
    refine (wint_any g base v bad zs n w1 hw1 (by omega) hn (by omega)).mono ?_
    rintro e w3 ⟨rfl, v3, h3, hk3, hn3⟩
    have hc2 := (hBx.keeps hk3 hxoff).cell 2 _ rfl
    clear hw1
    go_wp2_with fail
    refine (back_any gl bs.length bs A bs.length cap w3 (hL.keeps hk3 hgloff) rfl (hA w3 (hK1.of_none.trans hk3)) rfl (by omega)).mono ?_
    rintro e w4 ⟨rfl, -, hk4⟩
    go_wp2_with fail
    go_ret
    refine FIN.out _ _ w3 w4 v3 ?_ hk3 hn3 hk4
    rw [EB.out, EZ.out, if_neg (by omega), if_neg (by omega)]
    exact h3
  · go_wp2_with fail
    refine (wbytes_any g base v bad zs (some ⟨gl, 0, Option.none⟩) bs.length (bs.length + 5) bs w1 hw1 (by omega) (lentCells_nums hL) rfl hlen (fun e => by cases e) hoff hr).mono ?_
    rintro e w3 ⟨rfl, v3, h3, hk3, hn3⟩
    have hc2 := (hBx.keeps hk3 hxoff).cell 2 _ rfl
    clear hw1
    go_wp2_with fail
    refine (back_any gl bs.length bs A bs.length cap w3 (hL.keeps hk3 hgloff) rfl (hA w3 (hK1.of_none.trans hk3)) rfl (by omega)).mono ?_
    rintro e w4 ⟨rfl, -, hk4⟩
    go_wp2_with fail
    go_ret
    refine FIN.out _ _ w3 w4 v3 ?_ hk3 hn3 hk4
    rw [EB.out, EZ.out, if_neg (by omega), if_neg (by omega)]
    rw [List.append_assoc] at h3
    exact h3
  · have hconv := conv_nums w1 A bs.length cap bs (hA w1 hK1.of_none) rfl
    go_wp2_with fail
    refine (wtext_any g base v bad zs bs w1 hw1 (by omega) hB hlen hr).mono ?_
    rintro e w3 ⟨rfl, v3, h3, hk3, hn3⟩
    have hc2 := (hBx.keeps hk3 hxoff).cell 2 _ rfl
    clear hw1
    go_wp2_with fail
    refine (back_any gl bs.length bs A bs.length cap w3 (hL.keeps hk3 hgloff) rfl (hA w3 (hK1.of_none.trans hk3)) rfl (by omega)).mono ?_
    rintro e w4 ⟨rfl, -, hk4⟩
    go_wp2_with fail
    go_ret
    refine FIN.out _ _ w3 w4 v3 ?_ hk3 hn3 hk4
    rw [EB.out, EZ.out, if_neg (by omega), if_neg (by omega)]
    rw [List.append_assoc] at h3
    exact h3

/-- What is asked, nothing turned. -/
def Asked (w : World) (e : Ending) (w' : World) : Prop := e = .returned (.bool true) ∧ Keeps None w w'

set_option maxRecDepth 100000 in
set_option maxHeartbeats 1600000 in
theorem asked_any (g base : Nat) (v : Value) (bad : Bool) (zs : List Int) (A : Option Addr) (n cap : Nat) (its : List It) (w : World) (hw : Wr w g base v bad zs) (hA : ItsAt w A its) (hok : ∀ x ∈ its, x.Ok w) (hn : its.length = n) (hr : n ≤ 400) (hz : zs.length ≤ 400 * 65546)
    (hbad : its.any It.bad = bad) (hout : bad = false → zs = outF its) :
    Calls Try.prog 18 #[.pointer (some ⟨g, 0, Option.none⟩), .slice A n cap] w (Asked w) := by
  have hB : Hid ((doneF its) = (if bad = true then [] else zs, if bad = true then 1 else 0)) := Lib.hid (by
    unfold doneF
    rw [hbad]
    cases bad with
    | true => rfl
    | false => rw [hout rfl]; rfl)
  clear hbad hout
  go_enter Try.func18, Try.ntmps18
  go_wp2_with fail
  refine (wdone_any g base v bad zs w hw (by omega)).mono ?_
  rintro e w1 ⟨v1, rfl, hr1, hk1⟩
  obtain ⟨E, hE⟩ : ∃ E : Int, E = (if bad = true then 1 else 0) := ⟨_, rfl⟩
  obtain ⟨Z, hZ⟩ : ∃ Z : List Int, Z = (if bad = true then [] else zs) := ⟨_, rfl⟩
  rw [← hE, ← hZ] at hB
  rw [← hZ] at hr1
  rw [← hE]
  have hZl : Z.length ≤ 400 * 65546 := by rw [hZ]; split <;> simp; omega
  clear hE hZ
  obtain ⟨A1, c1, rfl, -, hN1, -⟩ := hr1.open_
  go_wp2_with fail
  refine (refdone_any A n cap its w1 (hA.grew hk1) (fun x hx => (hok x hx).grew hk1) hn hr).mono ?_
  rintro e w2 ⟨v2, rfl, hr2, hk2⟩
  rw [hB.out] at hr2
  rw [hB.out]
  have hN1' := hN1.grew hk2
  obtain ⟨A2, c2, rfl, -, hN2, -⟩ := hr2.open_
  simp only at hN2 ⊢
  go_wp2_with fail
  refine (same_any A1 Z.length c1 Z A2 Z.length c2 Z w2 hN1' rfl hN2 rfl (by omega)).mono ?_
  rintro e w3 ⟨rfl, hd⟩
  rw [show SameB Z Z = true from by simp [SameB]]
  go_wp2_with fail
  go_ret
  exact ⟨rfl, (hk1.trans hk2).trans (hd.keeps None)⟩
end Go.Proofs.Ytnhhmkgcgogddaa
