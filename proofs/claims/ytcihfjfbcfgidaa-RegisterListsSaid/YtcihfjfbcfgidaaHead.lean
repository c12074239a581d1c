/- Write by the machine's state; Done ahead of the end; cairnlaw7.head. -/
import Derived.Test.YtcihfjfbcfgidaaBegin
namespace Go.Proofs.Ytcihfjfbcfgidaa
open Go.RowKit Go.Maps Go.Proofs.YtcihfjfbcfgidaaW.PrintLast

theorem uniq_mem (s : Int) : ∀ (l acc : List Int), s ∈ l.foldl (fun acc s => if s ∈ acc then acc else acc ++ [s]) acc ↔ s ∈ acc ∨ s ∈ l
  | [], acc => by simp
  | x :: l, acc => by
    rw [List.foldl_cons, uniq_mem s l]
    split
    · next h =>
      simp only [List.mem_cons]
      constructor
      · rintro (h1 | h1)
        · exact .inl h1
        · exact .inr (.inr h1)
      · rintro (h1 | h1 | h1)
        · exact .inl h1
        · exact .inl (h1 ▸ h)
        · exact .inr h1
    · simp only [List.mem_append, List.mem_cons, List.not_mem_nil, or_false, or_assoc]
theorem uniqF_mem (l : List Int) (s : Int) : s ∈ uniqF l ↔ s ∈ l := by unfold uniqF; rw [uniq_mem]; simp
theorem uniq_len : ∀ (l acc : List Int), (l.foldl (fun acc s => if s ∈ acc then acc else acc ++ [s]) acc).length ≤ acc.length + l.length
  | [], acc => by simp
  | x :: l, acc => by
    rw [List.foldl_cons]
    refine Nat.le_trans (uniq_len l _) ?_
    split <;> simp <;> omega
theorem uniqF_len (l : List Int) : (uniqF l).length ≤ l.length := by have := uniq_len l []; simpa [uniqF] using this
theorem uniq_nodup : ∀ (l acc : List Int), acc.Nodup → (l.foldl (fun acc s => if s ∈ acc then acc else acc ++ [s]) acc).Nodup
  | [], acc, h => h
  | x :: l, acc, h => by
    rw [List.foldl_cons]
    refine uniq_nodup l _ ?_
    split
    · exact h
    · next hn => exact List.nodup_append.2 ⟨h, by simp, fun a ha b hb => by simp at hb; subst hb; exact fun e => hn (e ▸ ha)⟩
theorem uniqF_nodup (l : List Int) : (uniqF l).Nodup := uniq_nodup l [] List.nodup_nil
theorem uniq_of_nodup : ∀ (l acc : List Int), (acc ++ l).Nodup → l.foldl (fun acc s => if s ∈ acc then acc else acc ++ [s]) acc = acc ++ l
  | [], acc, h => by simp
  | x :: l, acc, h => by
    rw [List.foldl_cons, if_neg (fun hx => by have := (List.nodup_append.1 h).2.2 x hx x (by simp); exact this rfl), uniq_of_nodup l _ (by simpa using h)]
    simp
theorem uniqF_of_nodup (l : List Int) (h : l.Nodup) : uniqF l = l := by simpa [uniqF] using uniq_of_nodup l [] (by simpa using h)
theorem uniqF_uniqF (l : List Int) : uniqF (uniqF l) = uniqF l := uniqF_of_nodup _ (uniqF_nodup l)

/-- What New hands back: a machine of its own. -/
def MadeEnd (h : Hd) (round : Int) (w : World) (e : Ending) (w' : World) : Prop :=
  ∃ g X, e = .returned (.iface 104 (.pointer (some ⟨g, 0, Option.none⟩))) ∧ Mach w' w.heap.size X g h round .fresh ∧ Keeps None w w'

theorem write_mach (client op k0 k1 k2 k3 round : Int) (A : Option Addr) (n cap : Nat) (l : List Int) (B : Option Addr) (m cap' : Nat) (zs : List Int) (w : World) (hA : Nums .i64 w A l) (hn : l.length = n) (hr : n ≤ 1000) (hwf : ∀ s ∈ l, (Lit.int .i64 s).wf = true) (hB : Nums .u8 w B zs) (hm : zs.length = m) (hr' : m ≤ 140737488351232) :
    Calls Try.prog 17 #[.int .i64 client, .int .i64 op, .agg #[.int .i64 k0, .int .i64 k1, .int .i64 k2, .int .i64 k3], .slice A n cap, .int .i64 round, .slice B m cap'] w (MadeEnd ⟨client, op, k0, k1, k2, k3, uniqF l, true, zs, 0⟩ round w) := by
  refine (write_any client op k0 k1 k2 k3 round A n cap l B m cap' zs w hA hn (by omega) hB hm hr').mono ?_
  rintro e w' ⟨g, v, u, rfl, hg, hBk, hR, hv, hU, hu, hk⟩
  have hul := uniqF_len l
  refine ⟨g, fun b => v.ownBlock = some b ∨ u.ownBlock = some b, rfl, ⟨⟨v, u, freshV, hBk, hR, (fun _ => .inl), hU, (fun _ => .inr), rfl⟩, ⟨?_, hg⟩, ?_, ⟨by show (uniqF l).length ≤ 1000; omega, fun s hs => hwf s ((uniqF_mem l s).1 hs), uniqF_uniqF l, by show zs.length ≤ MB; unfold MB; omega, by show (0 : Int) ≤ 0 ∧ (0 : Int) ≤ 4096; omega⟩⟩, hk⟩
  · rintro (e | e)
    · exact hv g e rfl
    · exact hu g e rfl
  · rintro b (e | e)
    · exact hR.lt b e
    · exact hU.lt b e

set_option maxRecDepth 100000 in
set_option maxHeartbeats 1600000 in
theorem done_not (g : Nat) (client op round need k0 k1 k2 k3 : Int) (v : Value) (wr : Bool) (bl : Value) (size : Int) (st : Value) (w : World) (hB : Blk w g 109 (mcells client op round need k0 k1 k2 k3 v wr bl size st))
    (hta : ∀ w, (Instr.typeAssert st 107 165 true).run Try.prog w = .ok (.tuple #[.agg #[.int .i64 0, .string ⟨#[]⟩, .int .i64 0, .int .i64 0, .int .i64 0, .slice Option.none 0 0, .slice Option.none 0 0, .int .i64 0, .int .i64 0, .int .i64 0, .int .i64 0], .bool false]) w) :
    Calls Try.prog 85 #[.pointer (some ⟨g, 0, Option.none⟩)] w fun e w' => e = .returned (.tuple #[resultZ, .bool false]) ∧ Keeps None w w' := by
  have hZ := Blk.new w 46 [.int .i64 0, .string ⟨#[]⟩, .int .i64 0, .int .i64 0, .int .i64 0, .slice Option.none 0 0, .slice Option.none 0 0, .int .i64 0, .int .i64 0, .int .i64 0, .int .i64 0]
  have hB1 := hB.alloc (.cells #[.int .i64 0, .string ⟨#[]⟩, .int .i64 0, .int .i64 0, .int .i64 0, .slice Option.none 0 0, .slice Option.none 0 0, .int .i64 0, .int .i64 0, .int .i64 0, .int .i64 0] 46)
  have c12 := hB1.cell 12 _ rfl
  go_enter Try.func85, Try.ntmps85
  go_wp2_with fail
  have hF := hZ.alloc (.cells #[.int .i64 0, .string ⟨#[]⟩, .int .i64 0, .int .i64 0, .int .i64 0, .slice Option.none 0 0, .slice Option.none 0 0, .int .i64 0, .int .i64 0, .int .i64 0, .int .i64 0] 165)
  exact ⟨rfl, _, results_d _ _ w.heap.size false rfl rfl hF, rfl, ((Keeps.refl None w).alloc _).alloc _⟩

/-- The phase is the last. -/
def Ph.over : Ph → Bool
  | .ended _ _ _ => true
  | _ => false

set_option maxRecDepth 100000 in
theorem mach_not (g base : Nat) (X : Nat → Prop) (h : Hd) (round : Int) (ph : Ph) (w : World) (hM : Mach w base X g h round ph) (hp : ph.over = false) :
    Calls Try.prog 85 #[.pointer (some ⟨g, 0, Option.none⟩)] w fun e w' => e = .returned (.tuple #[resultZ, .bool false]) ∧ Keeps None w w' := by
  obtain ⟨v, bl, st, hB, hR, hv, hbl, hx, hst⟩ := hM.out
  refine done_not g h.client h.op round h.need h.k0 h.k1 h.k2 h.k3 v h.wr bl h.size st w hB ?_
  cases ph with
  | fresh => obtain rfl : st = freshV := hst; exact fun w => by kernel_rfl
  | asking qs => obtain ⟨tg, vg, bm, rs, rfl, _⟩ := hst; exact fun w => by kernel_rfl
  | laying ss tag ds => obtain ⟨tg, vg, bm, dv, rfl, _⟩ := hst; exact fun w => by kernel_rfl
  | ended err tag ds => cases hp

theorem mach_round (g base : Nat) (X : Nat → Prop) (h : Hd) (round : Int) (ph : Ph) (w : World) (hM : Mach w base X g h round ph) :
    Calls Try.prog 86 #[.pointer (some ⟨g, 0, Option.none⟩)] w fun e w' => e = .returned (.int .i64 round) ∧ w' = w := by
  obtain ⟨v, bl, st, hB, hR, hv, hbl, hx, hst⟩ := hM.out
  exact round_any g h.client h.op round h.need h.k0 h.k1 h.k2 h.k3 v h.wr bl h.size st w hB

/-- A row of messages, cell by cell. -/
theorem MsgRow.cells {w : World} {base : Nat} {kind client op round k0 k1 k2 k3 s1 s2 : Int} {v : Value} {l zs : List Int} {ms : List (Int × Value)} (h : MsgRow w base kind client op round k0 k1 k2 k3 s1 s2 v l zs ms) :
    ∃ A c, v = .slice A l.length c ∧ ∀ j x, l[j]? = some x → ∃ b u, A = some ⟨b, 0, Option.none⟩ ∧ ms[j]? = some (x, u) ∧ base ≤ b ∧ ∀ i y, (tellCells kind client op round k0 k1 k2 k3 s1 s2 (x, u))[i]? = some y → w.cell? ⟨b, j * 30 + i, Option.none⟩ = some y := by
  have hll : l.length = ms.length := by rw [← h.to, List.length_map]
  obtain ⟨A, c, ev⟩ := owns_slice h.own
  subst ev
  refine ⟨A, c, by rw [hll], fun j x hx => ?_⟩
  obtain ⟨hj, -⟩ := List.getElem?_eq_some_iff.1 hx
  rcases h.own.2 with ⟨e, h0⟩ | ⟨g, cap, cur, e, hb, hg, hn, hc, hs, ht⟩
  · omega
  · cases e
    obtain ⟨m, hm⟩ : ∃ m, ms[j]? = some m := ⟨_, List.getElem?_eq_getElem (by omega)⟩
    have hmx : m.1 = x := by
      have := h.to
      have h2 : (ms.map (·.1))[j]? = some m.1 := by rw [List.getElem?_map, hm]; rfl
      rw [this, hx] at h2
      exact (Option.some.inj h2).symm
    refine ⟨g, m.2, rfl, by rw [hm, ← hmx], hb, fun i y hy => ?_⟩
    rw [cell_of_row w g _ cur 66 (0, 0) hg]
    obtain ⟨hi, -⟩ := List.getElem?_eq_some_iff.1 hy
    have hi30 : i < 30 := by simpa [tellCells] using hi
    have e1 : (cur.toList.take (ms.length * 30))[j * 30 + i]? = (tellsCells kind client op round k0 k1 k2 k3 s1 s2 ms)[j * 30 + i]? := by rw [ht]
    have hjm : j * 30 + i < ms.length * 30 := by omega
    rw [List.getElem?_take, if_pos hjm, Array.getElem?_toList] at e1
    rw [e1]
    have e2 : ∀ (ms : List (Int × Value)) (j : Nat) (m : Int × Value), ms[j]? = some m → (tellsCells kind client op round k0 k1 k2 k3 s1 s2 ms)[j * 30 + i]? = (tellCells kind client op round k0 k1 k2 k3 s1 s2 m)[i]? := by
      intro ms
      induction ms with
      | nil => intro j m hm; simp at hm
      | cons m0 ms ih =>
        intro j m hm
        unfold tellsCells at ih ⊢
        rw [List.flatMap_cons]
        have hl0 : (tellCells kind client op round k0 k1 k2 k3 s1 s2 m0).length = 30 := rfl
        cases j with
        | zero =>
          simp at hm
          subst hm
          rw [Nat.zero_mul, Nat.zero_add, List.getElem?_append_left (by omega)]
        | succ j =>
          rw [List.getElem?_append_right (by omega), hl0]
          have e3 : (j + 1) * 30 + i - 30 = j * 30 + i := by omega
          rw [e3]
          exact ih j m (by simpa using hm)
    rw [e2 ms j m hm]
    rw [← hmx] at hy
    exact hy

theorem owns_cell_grew {w w' : World} {p : Addr} {y : Value} (hk : Keeps None w w') (h : w.cell? p = some y) : w'.cell? p = some y := hk.cell h id

set_option maxRecDepth 100000 in
set_option maxHeartbeats 1600000 in
theorem head_any (w : World) : Calls Try.prog 14 #[] w fun e w' => e = .returned (.bool true) ∧ Keeps None w w' := by
  have k1 := ((Keeps.refl None w).alloc (.cells #[.int .i64 5, .int .i64 6] 3)).alloc (.cells #[.int .u8 7] 5)
  have hN1 : Nums .i64 ((w.alloc (.cells #[.int .i64 5, .int .i64 6] 3)).alloc (.cells #[.int .u8 7] 5)) (some ⟨w.heap.size, 0, Option.none⟩) [5, 6] := (((Blk.new w 3 [.int .i64 5, .int .i64 6]).alloc _).nums 0 [5, 6] rfl)
  have hN2 : Nums .u8 ((w.alloc (.cells #[.int .i64 5, .int .i64 6] 3)).alloc (.cells #[.int .u8 7] 5)) (some ⟨w.heap.size + 1, 0, Option.none⟩) [7] := by
    have := (Blk.new (w.alloc (.cells #[.int .i64 5, .int .i64 6] 3)) 5 [.int .u8 7]).nums 0 [7] rfl
    rwa [World.size_alloc] at this
  go_enter Try.func14, Try.ntmps14
  go_wp2_with fail
  refine (write_mach 3 1 1 3 1 0 9 _ 2 2 [5, 6] _ 1 1 [7] _ hN1 rfl (by omega) (by decide) hN2 rfl (by omega)).mono ?_
  rintro e w2 ⟨g, X, rfl, hM, hk2⟩
  rw [show uniqF [5, 6] = [5, 6] from by decide] at hM
  go_wp2_with fail
  refine (begin_fresh g _ X _ 9 w2 hM (by omega) (by omega)).mono ?_
  rintro e w3 ⟨X3, B3, u3, rfl, hM3, ⟨ms, hMR⟩, -, hX3, hXB, hB, hk3⟩
  obtain ⟨A3, c3, rfl, hcs⟩ := hMR.cells
  obtain ⟨b3, u, rfl, hmu, hbb, hcc⟩ := hcs 1 6 rfl
  have hk3' : Keeps None w w3 := (k1.trans hk2).andThen hk3 (fun i hi e => by
    have hks := k1.size
    rcases e with e | e
    · have := (hM.X i e).1; omega
    · have := hM.g.2; omega)
  go_wp2_with fail
  refine (mach_not g _ X3 _ 9 _ w3 hM3 rfl).mono ?_
  rintro e w4 ⟨rfl, hk4⟩
  simp only [resultZ]
  have q4 := (hMR.own)
  have kR : Keeps None w3 (w4.alloc (.cells #[.int .i64 0, .string ⟨#[]⟩, .int .i64 0, .int .i64 0, .int .i64 0, .slice Option.none 0 0, .slice Option.none 0 0, .int .i64 0, .int .i64 0, .int .i64 0, .int .i64 0] 46)) := hk4.alloc _
  have q6 := owns_cell_grew kR (hcc 4 _ rfl)
  have q7 := owns_cell_grew kR (hcc 6 _ rfl)
  have hM5 := hM3.grew kR
  simp only [Nat.one_mul, Nat.reduceAdd] at q6 q7
  clear hcc hcs hmu
  go_wp2_with fail
  refine (mach_round g _ X3 _ 9 _ _ hM5).mono ?_
  rintro e w6 ⟨rfl, rfl⟩
  go_wp2_with fail
  go_ret
  exact ⟨rfl, hk3'.trans kR⟩
end Go.Proofs.Ytcihfjfbcfgidaa
