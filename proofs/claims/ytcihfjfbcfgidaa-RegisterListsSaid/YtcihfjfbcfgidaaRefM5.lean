/- The document's machine: who stands where: place. -/
import Derived.Test.YtcihfjfbcfgidaaRefM4
namespace Go.Proofs.Ytcihfjfbcfgidaa
open Go.RowKit Go.Maps Go.Proofs.YtcihfjfbcfgidaaW.PrintLast
set_option linter.unusedVariables false

set_option maxRecDepth 100000 in
set_option maxHeartbeats 3200000 in
theorem refplace_not (r : Nat) (h : Hd) (rsz round : Int) (gv bv : Value) (p : Int) (av vv : Value) (t1 t2 err : Int) (kind : Int) (fc : Bool) (fi : Int) (tc : Bool) (ti op rd q0 q1 q2 q3 s1 s2 h1 h2 : Int) (A : Option Addr) (cap : Nat) (zs : List Int) (c0 c1 c2 : Int) (nm : ByteArray) (c3 c4 c5 c6 c7 up : Int) (E : Option Addr) (en ec : Nat) (L : Option Addr) (ln lc : Nat) (D : Option Addr) (dn dc : Nat) (more : Bool) (w : World)
    (hB : Blk w r 86 (rcells h rsz gv round bv p av vv t1 t2 err)) (hp : p = 0 ∨ p = 3) :
    Calls Try.prog 49 #[.pointer (some ⟨r, 0, Option.none⟩), .agg #[.int .i64 kind, .bool fc, .int .i64 fi, .bool tc, .int .i64 ti, .int .i64 op, .int .i64 rd, .int .i64 q0, .int .i64 q1, .int .i64 q2, .int .i64 q3, .int .i64 s1, .int .i64 s2, .int .i64 h1, .int .i64 h2, .slice A zs.length cap, .int .i64 c0, .int .i64 c1, .int .i64 c2, .string nm, .int .i64 c3, .int .i64 c4, .int .i64 c5, .int .i64 c6, .int .i64 c7, .int .i64 up, .slice E en ec, .slice L ln lc, .slice D dn dc, .bool more]] w fun e w' => e = .returned (.int .i64 (-1)) ∧ Keeps None w w' := by
  obtain ⟨W, hW⟩ : ∃ W, W = w.alloc (.cells #[.int .i64 kind, .bool fc, .int .i64 fi, .bool tc, .int .i64 ti, .int .i64 op, .int .i64 rd, .int .i64 q0, .int .i64 q1, .int .i64 q2, .int .i64 q3, .int .i64 s1, .int .i64 s2, .int .i64 h1, .int .i64 h2, .slice A zs.length cap, .int .i64 c0, .int .i64 c1, .int .i64 c2, .string nm, .int .i64 c3, .int .i64 c4, .int .i64 c5, .int .i64 c6, .int .i64 c7, .int .i64 up, .slice E en ec, .slice L ln lc, .slice D dn dc, .bool more] 66) := ⟨_, rfl⟩
  have kW : Keeps None w W := by rw [hW]; exact (Keeps.refl None w).alloc _
  have hBW := hB.grew kW
  have b11 := hBW.cell 11 _ rfl
  rcases hp with rfl | rfl
  all_goals
    go_enter Try.func49, Try.ntmps49
    go_upto_region 2 with (fail)
    rw [← hW]
    clear hW
    go_upto_region 4 with (fail)
    go_quiet (fail)
    go_wp2
    go_ret
    exact ⟨rfl, kW.trans ((Keeps.refl _ _).drewN _)⟩

/-- Where the sender stands: -1: he is passed over. -/
def PlaceR (good : Bool) (grp : List Int) (F : Int → Bool) (s k : Int) : Prop :=
  (k = -1 ∧ (good = false ∨ s ∉ grp ∨ F s = true)) ∨ (good = true ∧ ∃ j : Nat, k = (j : Int) ∧ grp[j]? = some s ∧ F s = false)

set_option maxRecDepth 100000 in
set_option maxHeartbeats 6400000 in
theorem refplace7_any (r : Nat) (h : Hd) (rsz round : Int) (gv bv : Value) (p kd : Int) (vv : Value) (t1 t2 err : Int) (ab : Nat) (F : Int → Bool) (kind : Int) (fc : Bool) (fi : Int) (tc : Bool) (ti op rd q0 q1 q2 q3 s1 s2 h1 h2 : Int) (A : Option Addr) (cap : Nat) (zs : List Int) (c0 c1 c2 : Int) (nm : ByteArray) (c3 c4 c5 c6 c7 up : Int) (E : Option Addr) (en ec : Nat) (L : Option Addr) (ln lc : Nat) (D : Option Addr) (dn dc : Nat) (more : Bool) (w : World)
    (hB : Blk w r 86 (rcells h rsz gv round bv p (.slice (some ⟨ab, 0, Option.none⟩) h.grp.length h.grp.length) vv t1 t2 err)) (base : Nat) (hG : Row .i64 3 w base gv h.grp) (hl : h.grp.length ≤ 1000)
    (hab : Blk w ab 4 (h.grp.map fun s => .bool (F s))) (hp : (p = 1 ∧ kd = 11) ∨ (p = 2 ∧ kd = 12)) :
    Calls Try.prog 49 #[.pointer (some ⟨r, 0, Option.none⟩), .agg #[.int .i64 kind, .bool fc, .int .i64 fi, .bool tc, .int .i64 ti, .int .i64 op, .int .i64 rd, .int .i64 q0, .int .i64 q1, .int .i64 q2, .int .i64 q3, .int .i64 s1, .int .i64 s2, .int .i64 h1, .int .i64 h2, .slice A zs.length cap, .int .i64 c0, .int .i64 c1, .int .i64 c2, .string nm, .int .i64 c3, .int .i64 c4, .int .i64 c5, .int .i64 c6, .int .i64 c7, .int .i64 up, .slice E en ec, .slice L ln lc, .slice D dn dc, .bool more]] w fun e w' => Keeps None w w' ∧ ∃ k, e = .returned (.int .i64 k) ∧ PlaceR (decide (kind = kd) && fitsF h round fc tc ti op rd q0 q1 q2 q3) h.grp F fi k := by
  obtain ⟨W, hW⟩ : ∃ W, W = w.alloc (.cells #[.int .i64 kind, .bool fc, .int .i64 fi, .bool tc, .int .i64 ti, .int .i64 op, .int .i64 rd, .int .i64 q0, .int .i64 q1, .int .i64 q2, .int .i64 q3, .int .i64 s1, .int .i64 s2, .int .i64 h1, .int .i64 h2, .slice A zs.length cap, .int .i64 c0, .int .i64 c1, .int .i64 c2, .string nm, .int .i64 c3, .int .i64 c4, .int .i64 c5, .int .i64 c6, .int .i64 c7, .int .i64 up, .slice E en ec, .slice L ln lc, .slice D dn dc, .bool more] 66) := ⟨_, rfl⟩
  have kW : Keeps None w W := by rw [hW]; exact (Keeps.refl None w).alloc _
  have hX : Blk W w.heap.size 66 [.int .i64 kind, .bool fc, .int .i64 fi, .bool tc, .int .i64 ti, .int .i64 op, .int .i64 rd, .int .i64 q0, .int .i64 q1, .int .i64 q2, .int .i64 q3, .int .i64 s1, .int .i64 s2, .int .i64 h1, .int .i64 h2, .slice A zs.length cap, .int .i64 c0, .int .i64 c1, .int .i64 c2, .string nm, .int .i64 c3, .int .i64 c4, .int .i64 c5, .int .i64 c6, .int .i64 c7, .int .i64 up, .slice E en ec, .slice L ln lc, .slice D dn dc, .bool more] := by rw [hW]; exact Blk.new _ _ _
  have hBW := hB.grew kW
  have m0 := hX.cell 0 _ rfl
  have m1 := hX.cell 1 _ rfl
  have m2 := hX.cell 2 _ rfl
  have m3 := hX.cell 3 _ rfl
  have m4 := hX.cell 4 _ rfl
  have m5 := hX.cell 5 _ rfl
  have m6 := hX.cell 6 _ rfl
  have m7 := hX.cell 7 _ rfl
  have m8 := hX.cell 8 _ rfl
  have m9 := hX.cell 9 _ rfl
  have m10 := hX.cell 10 _ rfl
  have b11 := hBW.cell 11 _ rfl
  have b1 := hBW.cell 1 _ rfl
  have b2 := hBW.cell 2 _ rfl
  have b8 := hBW.cell 8 _ rfl
  have b3 := hBW.cell 3 _ rfl
  have b4 := hBW.cell 4 _ rfl
  have b5 := hBW.cell 5 _ rfl
  have b6 := hBW.cell 6 _ rfl
  obtain ⟨G, hGd⟩ : ∃ G, G = (decide (kind = kd) && fitsF h round fc tc ti op rd q0 q1 q2 q3) := ⟨_, rfl⟩
  obtain ⟨Td, hTd⟩ : ∃ T, T = decide (kind = kd) := ⟨_, rfl⟩
  obtain ⟨Ta, hTa⟩ : ∃ T, T = decide (tc = true ∧ ti = h.client) := ⟨_, rfl⟩
  obtain ⟨Tk, hTk⟩ : ∃ T, T = decide (q0 = h.k0 ∧ q1 = h.k1 ∧ q2 = h.k2 ∧ q3 = h.k3) := ⟨_, rfl⟩
  obtain ⟨To, hTo⟩ : ∃ T, T = decide (op = h.op) := ⟨_, rfl⟩
  obtain ⟨Tr, hTr⟩ : ∃ T, T = decide (rd = round) := ⟨_, rfl⟩
  have hFF : Hid (G = (Td && (!fc && Ta && To && Tr && Tk))) := Lib.hid (by rw [hGd, hTa, hTo, hTr, hTk, hTd]; rfl)
  have hca : ∀ w, (binOp .neq 58 (.agg #[.bool tc, .int .i64 ti]) (.agg #[.bool true, .int .i64 h.client])).run Try.prog w = .ok (.bool (!Ta)) w := fun w => by rw [neq_addr, hTa]
  have hck : ∀ w, (binOp .neq 51 (.agg #[.int .i64 q0, .int .i64 q1, .int .i64 q2, .int .i64 q3]) (.agg #[.int .i64 h.k0, .int .i64 h.k1, .int .i64 h.k2, .int .i64 h.k3])).run Try.prog w = .ok (.bool (!Tk)) w := fun w => by rw [neq_key, hTk]
  have tco : (op != h.op) = !To := by rw [hTo]; by_cases e : op = h.op <;> simp [e]
  have tcr : (rd != round) = !Tr := by rw [hTr]; by_cases e : rd = round <;> simp [e]
  have tcd : (kind != kd) = !Td := by rw [hTd]; by_cases e : kind = kd <;> simp [e]
  rw [← hGd]
  clear hGd hTa hTk hTo hTr hTd
  have hXX := Lib.hid hX
  rcases hp with ⟨rfl, rfl⟩ | ⟨rfl, rfl⟩
  all_goals
    go_enter Try.func49, Try.ntmps49
    go_upto_region 2 with (fail)
    rw [← hW]
    clear hW
    go_upto_region 4 with (fail)
    go_cut [71] from 7 to 71 (fun c wx => c = .bool (!G) ∧ Drew W wx)
    case first =>
      cases Td with
      | false =>
        have hF1 : G = false := by rw [hFF.out]; rfl
        subst hF1
        go_quiet (fail)
        go_wp2
        go_meet
        exact ⟨rfl, ⟨_, rfl⟩⟩
      | true =>
        cases fc with
        | true =>
          have hF1 : G = false := by rw [hFF.out]; rfl
          subst hF1
          go_quiet (fail)
          go_wp2
          go_meet
          exact ⟨rfl, ⟨_, rfl⟩⟩
        | false =>
          cases Ta with
          | false =>
            have hF1 : G = false := by rw [hFF.out]; rfl
            subst hF1
            go_quiet (fail)
            go_wp2
            go_meet
            exact ⟨rfl, ⟨_, rfl⟩⟩
          | true =>
            cases To with
            | false =>
              have hF1 : G = false := by rw [hFF.out]; rfl
              subst hF1
              go_quiet (fail)
              go_wp2
              go_meet
              exact ⟨rfl, ⟨_, rfl⟩⟩
            | true =>
              cases Tr with
              | false =>
                have hF1 : G = false := by rw [hFF.out]; rfl
                subst hF1
                go_quiet (fail)
                go_wp2
                go_meet
                exact ⟨rfl, ⟨_, rfl⟩⟩
              | true =>
                cases Tk with
                | false =>
                  have hF1 : G = false := by rw [hFF.out]; rfl
                  subst hF1
                  go_quiet (fail)
                  go_wp2
                  go_meet
                  exact ⟨rfl, ⟨_, rfl⟩⟩
                | true =>
                  have hF1 : G = true := by rw [hFF.out]; rfl
                  subst hF1
                  go_quiet (fail)
                  go_wp2
                  go_meet
                  exact ⟨rfl, ⟨_, rfl⟩⟩
    case rest =>
      obtain ⟨rfl, ⟨⟨nc, rfl⟩⟩⟩ := hcut
      clear hFF hca hck tco tcr tcd m0 m1 m3 m4 m5 m6 m7 m8 m9 m10 b1 b2 b3 b4 b5 b6 b8 b11 hX
      cases G with
      | false =>
        go_wp2_with fail
        go_ret
        exact ⟨kW.trans ((Keeps.refl _ _).drewN _), -1, rfl, .inl ⟨rfl, .inl rfl⟩⟩
      | true =>
        obtain ⟨W2, hW2⟩ : ∃ W2, W2 = W.drewN nc := ⟨_, rfl⟩
        have kd2 : Keeps None W W2 := by rw [hW2]; exact (Keeps.refl _ _).drewN _
        rw [← hW2]
        clear hW2
        have hB2 := hBW.grew kd2
        have n2 := kd2.cell m2 id
        clear m2
        obtain ⟨Ag, cg, rfl⟩ := hG.slice
        have k2 := kW.trans kd2
        have m7 := hB2.cell 7 _ rfl
        have m12 := hB2.cell 12 _ rfl
        have hN2 := (Nums.row hG).1.grew k2
        have ha2 := hab.grew k2
        go_wp2_with fail
        go_loopw [6] (fun i wr => ∃ k : Nat, k ≤ h.grp.length ∧ i = .int .i64 k ∧ Hid (∀ j : Nat, j < k → h.grp[j]? = some fi → F fi = true) ∧ Drew W2 wr) (fun i _ => h.grp.length - (intOf i).toNat)
        case atStart => exact ⟨0, Nat.zero_le _, rfl, Lib.hid (fun j hj => by omega), Drew.refl _⟩
        case round =>
          obtain ⟨k, hk, rfl, hNo, ⟨⟨nd, rfl⟩⟩⟩ := hrel
          by_cases hlt : k < h.grp.length
          · obtain ⟨x, bg, og, rfl, hc, hs⟩ := hN2.get k hlt
            have c12 : W2.cell? ⟨ab, k, Option.none⟩ = some (.bool (F x)) := ha2.cell k _ (by rw [List.getElem?_map, hs.out]; rfl)
            by_cases he : x = fi
            · obtain ⟨ta, tb⟩ := test_eq he
              obtain ⟨b, hb⟩ : ∃ b, b = F x := ⟨_, rfl⟩
              rw [← hb] at c12
              cases b with
              | true =>
                have hNo2 : Hid (∀ j : Nat, j < k + 1 → h.grp[j]? = some fi → F fi = true) := Lib.hid (fun _ _ _ => by rw [← he]; exact hb.symm)
                clear he hb hs
                go_wp2
                go_quiet (fail)
                go_wp2
                go_roundw
                case rel => exact ⟨k + 1, by omega, by go_num, hNo2, ⟨_, rfl⟩⟩
                case measure => simp [intOf]; omega
              | false =>
                have HS : Hid (h.grp[k]? = some fi ∧ F fi = false) := Lib.hid ⟨by rw [← he]; exact hs.out, by rw [← he]; exact hb.symm⟩
                clear he hb hs
                go_wp2
                go_quiet (fail)
                go_wp2
                go_ret
                exact ⟨k2.trans (((Keeps.refl _ _).drewN _).drewN _), k, rfl, .inr ⟨rfl, k, rfl, HS.out.1, HS.out.2⟩⟩
            · obtain ⟨ta, tb⟩ := test_ne he
              have hNo2 : Hid (∀ j : Nat, j < k + 1 → h.grp[j]? = some fi → F fi = true) := Lib.hid (fun j hj e => by
                by_cases hjk : j = k
                · subst hjk
                  rw [hs.out] at e
                  exact absurd (Option.some.inj e) he
                · exact hNo.out j (by omega) e)
              clear he hs
              go_wp2
              go_quiet (fail)
              go_wp2
              go_roundw
              case rel => exact ⟨k + 1, by omega, by go_num, hNo2, ⟨_, rfl⟩⟩
              case measure => simp [intOf]; omega
          · obtain rfl : k = h.grp.length := by omega
            go_wp2
            go_ret
            refine ⟨k2.trans ((Keeps.refl _ _).drewN _), -1, rfl, .inl ⟨rfl, .inr ?_⟩⟩
            by_cases hm : fi ∈ h.grp
            · obtain ⟨j, hj⟩ := List.getElem?_of_mem hm
              exact .inr (hNo.out j (List.getElem?_eq_some_iff.1 hj).1 hj)
            · exact .inl hm
end Go.Proofs.Ytcihfjfbcfgidaa
