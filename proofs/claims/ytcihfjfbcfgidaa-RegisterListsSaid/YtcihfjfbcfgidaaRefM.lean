/- The document's machine: its state in memory; Unlike; New. -/
import Derived.Test.YtcihfjfbcfgidaaTick
import Derived.Test.YtcihfjfbcfgidaaReadMade
import Derived.Deep.OwnRows
import Derived.Deep.MidRow
namespace Go.Proofs.Ytcihfjfbcfgidaa
open Go.RowKit Go.Maps
set_option linter.unusedVariables false

def rcells (h : Hd) (rsz : Int) (gv : Value) (round : Int) (bv : Value) (p : Int) (av vv : Value) (t1 t2 err : Int) : List Value :=
  [.bool h.wr, .int .i64 h.client, .int .i64 h.op, .int .i64 h.k0, .int .i64 h.k1, .int .i64 h.k2, .int .i64 h.k3, gv, .int .i64 round, .int .i64 rsz, bv, .int .i64 p, av, vv, .int .i64 t1, .int .i64 t2, .int .i64 err]

/-- Bytes at a slice, in blocks that are allowed. -/
def Dat (w : World) (P : Nat → Prop) (v : Value) (ds : List Int) : Prop := ∃ A c, v = .slice A ds.length c ∧ Nums .u8 w A ds ∧ (∀ b o, A = some ⟨b, o, Option.none⟩ → 0 < ds.length → P b) ∧ ds.length ≤ MB
theorem Dat.keeps {S P : Nat → Prop} {w w' : World} {v : Value} {ds : List Int} (h : Dat w P v ds) (hk : Keeps S w w') (hS : ∀ b, P b → ¬ S b) : Dat w' P v ds := by
  obtain ⟨A, c, h1, h2, h3, h4⟩ := h
  by_cases h0 : 0 < ds.length
  · exact ⟨A, c, h1, h2.keeps hk (fun b o e => hS b (h3 b o e h0)), h3, h4⟩
  · obtain rfl : ds = [] := by cases ds with
      | nil => rfl
      | cons x l => simp at h0
    exact ⟨A, c, h1, Nums.nil _ _ _, h3, h4⟩
theorem Dat.mono {P P' : Nat → Prop} {w : World} {v : Value} {ds : List Int} (h : Dat w P v ds) (hP : ∀ b, P b → P' b) : Dat w P' v ds := by
  obtain ⟨A, c, h1, h2, h3, h4⟩ := h
  exact ⟨A, c, h1, h2, fun b o e h0 => hP b (h3 b o e h0), h4⟩

/-- What is allowed for what the machine reads alone: the blocks of the arguments, and those that it owns, but the ones that it writes. -/
def Rd (base : Nat) (Z W : Nat → Prop) : Nat → Prop := fun b => (b < base ∨ Z b) ∧ ¬ W b
theorem there_block {w w' : World} {b o n : Nat} (h : w.there b o n) (hb : w'.heap[b]? = w.heap[b]?) : w'.there b o n := fun j hj => by
  have := h j hj
  unfold World.cell? World.frozen? at this ⊢
  rw [hb]
  exact this
theorem Keeps.setCells {S : Nat → Prop} {a w : World} (h : Keeps S a w) (b o : Nat) (vs : List Value) (hp : b < a.heap.size → S b) : Keeps S a (w.setCells b o vs) := by
  induction vs generalizing o w with
  | nil => exact h
  | cons v vs ih => exact ih (h.setCell _ _ hp) (o + 1)
/-- The values of those who have answered. -/
structure VAt (w : World) (P : Nat → Prop) (vb n : Nat) (f : Nat → Option ((Int × Int) × List Int)) : Prop where
  lt : vb < w.heap.size
  there : w.there vb 0 (n * 30)
  at_ : ∀ i st ds, i < n → f i = some (st, ds) → ∃ dv, w.cell? ⟨vb, i * 30 + 11, Option.none⟩ = some (.int .i64 st.1) ∧ w.cell? ⟨vb, i * 30 + 12, Option.none⟩ = some (.int .i64 st.2) ∧ w.cell? ⟨vb, i * 30 + 15, Option.none⟩ = some dv ∧ Dat w P dv ds
theorem VAt.keeps {S P : Nat → Prop} {w w' : World} {vb n : Nat} {f : Nat → Option ((Int × Int) × List Int)} (h : VAt w P vb n f) (hk : Keeps S w w') (hS : ∀ b, P b → ¬ S b) (hv : ¬ S vb) : VAt w' P vb n f := by
  refine ⟨Nat.lt_of_lt_of_le h.lt hk.size, there_block h.there (hk.block vb h.lt hv), fun i st ds hi e => ?_⟩
  obtain ⟨dv, a, b, c, d⟩ := h.at_ i st ds hi e
  exact ⟨dv, hk.cell a hv, hk.cell b hv, hk.cell c hv, d.keeps hk hS⟩

/-- Who has answered, with what. -/
def ansF (h : Hd) (qs : List Ans) (i : Nat) : Option ((Int × Int) × List Int) := (h.grp[i]?.bind (lookA qs)).map fun q => (q.st, q.ds)
def Qok (h : Hd) (qs : List Ans) : Prop := (qs.map (·.s)).Nodup ∧ (∀ q ∈ qs, q.s ∈ h.grp) ∧ (qs.length : Int) < h.need
def Sok (h : Hd) (ss : List Int) : Prop := ss.Nodup ∧ (∀ s ∈ ss, s ∈ h.grp) ∧ (ss.length : Int) < h.need

/-- Who has answered, and the values: two blocks of their own. -/
def Arr (w : World) (P W : Nat → Prop) (r n : Nat) (av vv : Value) (bs : List Value) (f : Nat → Option ((Int × Int) × List Int)) : Prop :=
  ∃ ab vb, av = .slice (some ⟨ab, 0, Option.none⟩) n n ∧ vv = .slice (some ⟨vb, 0, Option.none⟩) n n ∧ W ab ∧ W vb ∧ ab ≠ vb ∧ ab ≠ r ∧ vb ≠ r ∧ Blk w ab 4 bs ∧ VAt w P vb n f
theorem Arr.keeps {S : Nat → Prop} {w w' : World} {P W : Nat → Prop} {r n : Nat} {av vv : Value} {bs : List Value} {f : Nat → Option ((Int × Int) × List Int)} (h : Arr w P W r n av vv bs f) (hk : Keeps S w w') (hP : ∀ b, P b → ¬ S b) (hW : ∀ b, W b → ¬ S b) : Arr w' P W r n av vv bs f := by
  obtain ⟨ab, vb, b1, b2, b3, b4, b5, b6, b7, b8, b9⟩ := h
  exact ⟨ab, vb, b1, b2, b3, b4, b5, b6, b7, b8.keeps hk (hW _ b3), b9.keeps hk hP (hW _ b4)⟩
def IsSl (v : Value) : Prop := ∃ A n c, v = .slice A n c
/-- Where the document's machine stands, as the program's words say it. -/
def RAt (w : World) (base : Nat) (Z W : Nat → Prop) (r : Nat) (h : Hd) (round : Int) (bv : Value) (p : Int) (av vv : Value) (t1 t2 err : Int) : Ph → Prop
  | .fresh => p = 0 ∧ (h.wr = true → Dat w (Rd base Z W) bv h.blk)
  | .asking qs => p = 1 ∧ Arr w (Rd base Z W) W r h.grp.length av vv (h.grp.map fun s => .bool (lookA qs s).isSome) (ansF h qs) ∧ (h.wr = true → Dat w (Rd base Z W) bv h.blk) ∧ Qok h qs ∧ 1 ≤ round ∧ round ≤ 1099511627776
  | .laying ss tag ds => p = 2 ∧ t1 = tag.1 ∧ t2 = tag.2 ∧ Arr w (Rd base Z W) W r h.grp.length av vv (h.grp.map fun s => .bool (decide (s ∈ ss))) (fun _ => Option.none) ∧ Dat w (Rd base Z W) bv ds ∧ Sok h ss ∧ 1 ≤ round ∧ round ≤ 1099511627776
  | .ended e tag ds => p = 3 ∧ err = e ∧ (e = 0 → t1 = tag.1 ∧ t2 = tag.2 ∧ (h.wr = true → ds = []) ∧ (h.wr = false → Dat w (Rd base Z W) bv ds)) ∧ (e ≠ 0 → e = 4 ∧ tag = (0, 0) ∧ ds = [])

structure RMach (w : World) (base : Nat) (Z W : Nat → Prop) (r : Nat) (h : Hd) (round : Int) (ph : Ph) : Prop where
  out : ∃ gv rsz bv p av vv t1 t2 err, Blk w r 86 (rcells h rsz gv round bv p av vv t1 t2 err) ∧ Row .i64 3 w base gv h.grp ∧ (∀ b, gv.ownBlock = some b → Z b ∧ ¬ W b) ∧ (h.wr = false → rsz = h.size) ∧ RAt w base Z W r h round bv p av vv t1 t2 err ph ∧ IsSl bv ∧ IsSl av ∧ IsSl vv
  r : W r
  W : ∀ b, W b → Z b
  Z : ∀ b, Z b → base ≤ b ∧ b < w.heap.size
  ok : HdOk h

theorem Rd.off {base : Nat} {Z W S : Nat → Prop} (hS : ∀ b, Z b → ¬ S b) (hb : ∀ b, S b → base ≤ b) : ∀ b, Rd base Z W b → ¬ S b := fun b h f => by
  rcases h.1 with k | k
  · have := hb b f; omega
  · exact hS b k f
theorem RAt.keeps {S : Nat → Prop} {w w' : World} {base : Nat} {Z W : Nat → Prop} {r : Nat} {h : Hd} {round : Int} {bv : Value} {p : Int} {av vv : Value} {t1 t2 err : Int} {ph : Ph} (ha : RAt w base Z W r h round bv p av vv t1 t2 err ph) (hk : Keeps S w w') (hR : ∀ b, Rd base Z W b → ¬ S b) (hW : ∀ b, W b → ¬ S b) : RAt w' base Z W r h round bv p av vv t1 t2 err ph := by
  cases ph with
  | fresh => exact ⟨ha.1, fun e => (ha.2 e).keeps hk hR⟩
  | asking qs =>
    obtain ⟨a1, a2, a3, a4⟩ := ha
    exact ⟨a1, a2.keeps hk hR hW, fun e => (a3 e).keeps hk hR, a4⟩
  | laying ss tag ds =>
    obtain ⟨a1, a2, a3, a4, a5, a6⟩ := ha
    exact ⟨a1, a2, a3, a4.keeps hk hR hW, a5.keeps hk hR, a6⟩
  | ended e tag ds =>
    obtain ⟨a1, a2, a3, a4⟩ := ha
    exact ⟨a1, a2, fun e => ⟨(a3 e).1, (a3 e).2.1, (a3 e).2.2.1, fun f => ((a3 e).2.2.2 f).keeps hk hR⟩, a4⟩
theorem RMach.keeps {S : Nat → Prop} {w w' : World} {base : Nat} {Z W : Nat → Prop} {r : Nat} {h : Hd} {round : Int} {ph : Ph} (hm : RMach w base Z W r h round ph) (hk : Keeps S w w') (hS : ∀ b, Z b → ¬ S b) (hb : ∀ b, S b → base ≤ b) : RMach w' base Z W r h round ph := by
  obtain ⟨gv, rsz, bv, p, av, vv, t1, t2, err, h1, h2, h3, h4, h5, h6⟩ := hm.out
  exact ⟨⟨gv, rsz, bv, p, av, vv, t1, t2, err, h1.keeps hk (hS _ (hm.W _ hm.r)), h2.keeps hk (fun b e => hS _ (h3 b e).1), h3, h4, h5.keeps hk (Rd.off hS hb) (fun b e => hS b (hm.W b e)), h6⟩, hm.r, hm.W, fun b e => ⟨(hm.Z b e).1, Nat.lt_of_lt_of_le (hm.Z b e).2 hk.size⟩, hm.ok⟩
theorem RMach.grew {w w' : World} {base : Nat} {Z W : Nat → Prop} {r : Nat} {h : Hd} {round : Int} {ph : Ph} (hm : RMach w base Z W r h round ph) (hk : Keeps None w w') : RMach w' base Z W r h round ph := hm.keeps hk (fun _ _ => id) (fun _ f => f.elim)

/-- What is told, as far as it is looked at: a message to each, and the bytes that it bears. -/
def See (w : World) (h : Hd) (u : Value) : OutS → Prop
  | .no => u = .slice Option.none 0 0
  | .msgs kind round tag zs l => ∃ A c, u = .slice A l.length c ∧ zs.length ≤ MB ∧ ∀ (j : Nat) x, l[j]? = some x → ∃ b D m, A = some ⟨b, 0, Option.none⟩ ∧ Nums .u8 w D zs ∧ ∀ (i : Nat) y, (tellCells kind h.client h.op round h.k0 h.k1 h.k2 h.k3 tag.1 tag.2 (x, .slice D zs.length m))[i]? = some y → w.cell? ⟨b, j * 30 + i, Option.none⟩ = some y
theorem OutAt.see {w : World} {B : Nat} {h : Hd} {u : Value} {o : OutS} (ho : OutAt w B h u o) (hz : ∀ kind round tag zs l, o = .msgs kind round tag zs l → zs.length ≤ MB) : See w h u o := by
  cases o with
  | no => exact ho
  | msgs kind round tag zs l =>
    obtain ⟨ms, hm⟩ := ho
    obtain ⟨A, c, e, hc⟩ := hm.cells
    refine ⟨A, c, e, hz _ _ _ _ _ rfl, fun j x hx => ?_⟩
    obtain ⟨b, u, hA, hms, -, hcc⟩ := hc j x hx
    have hR := hm.data _ (List.mem_of_getElem? hms)
    obtain ⟨D, m, eu⟩ := hR.slice
    simp only at eu
    subst eu
    exact ⟨b, D, m, hA, (Nums.row hR).1, hcc⟩
/-- A call's end. -/
def RStep (w : World) (base : Nat) (Z W : Nat → Prop) (r : Nat) (h : Hd) (round : Int) (ph : Ph) (out : OutS) (e : Ending) (w' : World) : Prop :=
  ∃ Z' W' u, e = .returned u ∧ RMach w' base Z' W' r h round ph ∧ See w' h u out ∧ (∀ b, Z b → Z' b) ∧ (∀ b, Z' b → Z b ∨ w.heap.size ≤ b) ∧ Keeps W w w'

set_option maxRecDepth 100000 in
set_option maxHeartbeats 1600000 in
theorem refunlike_any (A : Option Addr) (n cap : Nat) (l : List Int) (w : World) (hA : Nums .i64 w A l) (hn : l.length = n) (hr : n ≤ 17592186044416) :
    Calls Try.prog 60 #[.slice A n cap] w fun e w' => ∃ v, e = .returned v ∧ Row .i64 3 w' w.heap.size v (uniqF l) ∧ Keeps None w w' := by
  obtain ⟨i0, hi, hz0, hz1, hz2⟩ := info_parts Try.infoI64
  subst hn
  go_enter Try.func60, Try.ntmps60
  go_wp2
  go_loopw [3, 4] (fun y i wr => ∃ (k : Nat) (ys : List Int), k ≤ l.length ∧ i = .int .i64 k ∧ Row .i64 3 wr w.heap.size y ys ∧ Hid (ys = uniqF (l.take k)) ∧ ys.length ≤ k ∧ Keeps None w wr) (fun _ i _ => l.length - (intOf i).toNat)
  case atStart => exact ⟨0, [], Nat.zero_le _, rfl, Row.nil _ _ _ _, Lib.hid rfl, Nat.le_refl _, Keeps.refl _ _⟩
  case round =>
    obtain ⟨k, ys, hk, rfl, hw, hE, hyl, hK⟩ := hrel
    have hsz := hK.size
    obtain ⟨Ay, cy, rfl, -, hNy, -⟩ := hw.open_
    by_cases hlt : k < l.length
    · obtain ⟨s, b, o, rfl, hc, hs⟩ := (hA.grew hK).get k hlt
      have HT := Lib.hid (take_succ_of hs.out)
      go_wp2_with fail
      go_loopw [5, 6] (fun t i wq => ∃ (j : Nat) (B : Bool), j ≤ ys.length ∧ i = .int .i64 j ∧ t = .bool B ∧ Hid (B = decide (s ∈ ys.take j)) ∧ Drew wr wq) (fun _ i _ => ys.length - (intOf i).toNat)
      case atStart => exact ⟨0, false, Nat.zero_le _, rfl, rfl, Lib.hid (by simp), Drew.refl _⟩
      case round =>
        obtain ⟨j, B, hj, rfl, rfl, hB, ⟨⟨nd, rfl⟩⟩⟩ := hrel
        by_cases hjl : j < ys.length
        · obtain ⟨y, b2, o2, e2, hcy, hy⟩ := hNy.get j hjl
          cases e2
          have HTJ := Lib.hid (take_succ_of hy.out)
          cases B with
          | true =>
            have hB2 : Hid (true = decide (s ∈ ys.take (j + 1))) := Lib.hid (by rw [HTJ.out]; have := of_decide_eq_true hB.out.symm; simp [this])
            go_wp2
            go_quiet (fail)
            go_wp2
            go_roundw
            case rel => exact ⟨j + 1, true, by omega, by go_num, rfl, hB2, ⟨_, rfl⟩⟩
            case measure => simp [intOf]; omega
          | false =>
            have hno := of_decide_eq_false hB.out.symm
            by_cases he : y = s
            · obtain ⟨t1, t2⟩ := test_eq he
              have hB2 : Hid (true = decide (s ∈ ys.take (j + 1))) := Lib.hid (by rw [HTJ.out, he]; simp)
              clear he hy hno
              go_wp2
              go_quiet (fail)
              go_wp2
              go_roundw
              case rel => exact ⟨j + 1, true, by omega, by go_num, rfl, hB2, ⟨_, rfl⟩⟩
              case measure => simp [intOf]; omega
            · obtain ⟨t1, t2⟩ := test_ne he
              have hB2 : Hid (false = decide (s ∈ ys.take (j + 1))) := Lib.hid (by rw [HTJ.out]; simp [hno, Ne.symm he])
              clear he hy hno
              go_wp2
              go_quiet (fail)
              go_wp2
              go_roundw
              case rel => exact ⟨j + 1, false, by omega, by go_num, rfl, hB2, ⟨_, rfl⟩⟩
              case measure => simp [intOf]; omega
        · obtain rfl : j = ys.length := by omega
          have hBd := hB.out
          rw [List.take_of_length_le (Nat.le_refl _)] at hBd
          obtain ⟨wq, hwq⟩ : ∃ wq, wq = wr.drewN nd := ⟨_, rfl⟩
          have hd : Keeps None wr wq := by rw [hwq]; exact (Keeps.refl _ _).drewN _
          rw [← hwq]
          have hK0 := hK.trans hd
          have hw0 := hw.grew hd
          have hc0 := hd.cell hc id
          have hsz0 := hK0.size
          cases B with
          | true =>
            have E2 : Hid (ys = uniqF (l.take (k + 1))) := Lib.hid (by rw [HT.out, uniqF_snoc, ← hE.out, if_pos (of_decide_eq_true hBd.symm)])
            clear hBd hB hd hc hK hw hsz hwq
            go_wp2_with fail
            go_roundw
            case rel => exact ⟨k + 1, ys, by omega, by go_num, hw0, E2, by omega, hK0⟩
            case measure => simp [intOf]; omega
          | false =>
            have E2 : Hid (ys ++ [s] = uniqF (l.take (k + 1))) := Lib.hid (by rw [HT.out, uniqF_snoc, ← hE.out, if_neg (of_decide_eq_false hBd.symm)])
            clear hBd hB hd hc hK hw hsz hwq
            go_wp2_with (at_builtin; refine wpList_append_row _ rfl (.tmp 33) (.tmp 38) 52 rfl w.heap.size 3 i0 (.int .i64 0) 1 8 Try.underlying52 hi hz0 hz1 hz2 rfl (by decide) _ ys.length _ rfl (hw0.raw.alloc _) (some ⟨wq.heap.size, 0, Option.none⟩) 1 1 [Value.int .i64 s] rfl rfl (fun e => by cases e) (src_new wq 3 _ _ rfl) (ints_oneCell _ [s]) (by unfold maxLen; omega) (by omega) (by simp; omega) ?_; intro v' w1 hown hk1 hloc; have hr1 : Row .i64 3 w1 w.heap.size v' (ys ++ [s]) := Row.of_append rfl rfl hown; have hk2 : Keeps None w w1 := (hK0.alloc _).own (hw0.raw.alloc _) (Nat.le_refl _) hk1; clear hown)
            go_roundw
            case rel => exact ⟨k + 1, ys ++ [s], by omega, by go_num, hr1, E2, by simp; omega, hk2⟩
            case measure => simp [intOf]; omega
    · obtain rfl : k = l.length := by omega
      go_wp2
      go_ret
      refine ⟨_, rfl, hw.cast ?_, hK⟩
      rw [hE.out, List.take_of_length_le (Nat.le_refl _)]
end Go.Proofs.Ytcihfjfbcfgidaa
