/- The walk of WireForms. -/
import Derived.Test.YtnhhmkgcgogddaaFormsRead
import Derived.Test.YtnhhmkgcgogddaaWide
namespace Go.Proofs.Ytnhhmkgcgogddaa.wireForms
open Go.RowKit Go.Proofs.YtnhhmkgcgogddaaW.PrintLast
set_option linter.unusedVariables false

def LawEnd (w : World) (e : Ending) (w' : World) : Prop := e = .returned (.bool true) ∧ Below w.heap.size w w'

set_option maxRecDepth 100000 in
set_option maxHeartbeats 3200000 in
theorem walk (A : Option Addr) (n cap : Nat) (zs : List Int) (B : Option Addr) (m cap' : Nat) (cs : List Int) (w : World) (hA : Nums .u8 w A zs) (hb : Bytes zs) (hn : zs.length = n) (hr : n ≤ 140737488351232) (hB : Nums .i64 w B cs) (hm : cs.length = m) (hrm : m ≤ 17592186043904) :
    Calls Try.prog 12 #[.slice A n cap, .slice B m cap'] w (LawEnd w) := by
  subst hn
  subst hm
  have HB := Lib.hid hb
  clear hb
  go_enter Try.func12, Try.ntmps12
  go_wp2_with fail
  refine (lend_any A zs.length cap zs w hA rfl hr).mono ?_
  rintro e w1 ⟨gl, rfl, hgl, hL, hk1⟩
  have hA1 := hA.grew hk1
  have hs1 := hk1.size
  have hL1 := hL.lt
  go_wp2_with fail
  refine (read_any (some ⟨gl, 0, Option.none⟩) zs.length (zs.length + 5) zs w1 (lentCells_nums hL) rfl hr).mono ?_
  rintro e w2 ⟨g, v, rfl, hs2, hk2⟩
  have hsz2 := hk2.size
  have hgb := Rd.hb hs2
  go_wp2_with fail
  refine (back_any gl zs.length zs A zs.length cap w2 (hL.grew hk2) rfl (hA1.grew hk2) rfl hr).mono ?_
  rintro e w3 ⟨rfl, -, hk3⟩
  have hs3 : (⟨0, 0, 0⟩ : St).at w3 g w1.heap.size v zs := Rd.keeps hs2 hk3 (fun e => by have : g = gl := e; omega) (fun b e f => by have : b = gl := f; have := ((Rd.row hs2).lt b e).1; omega)
  have hK3 : Keeps None w w3 := (hk1.trans hk2).andThen hk3 (fun i hi e => by have : i = gl := e; omega)
  clear hs2 hA1 hL
  go_wp2_with fail
  have hgl3 := (Rd.blk hs3).lt
  have hvl3 := fun b (e : v.ownBlock = some b) => (Rd.row hs3).lt b e
  have hK4 : Keeps None w (w3.alloc (.cells #[.slice Option.none 0 0, .bool false] 30)) := hK3.alloc _
  go_loopw [8] (fun i wr => ∃ (k : Nat) (s : St) (vw : Value) (z : List Int), k ≤ cs.length ∧ k ≤ 400 ∧ i = .int .i64 k ∧ s.at wr g w1.heap.size v zs ∧ Wr wr w3.heap.size w3.heap.size vw false z ∧ Told zs k s z ∧ Keeps None w wr) (fun i _ => cs.length - (intOf i).toNat)
  case atStart => exact ⟨0, _, _, [], Nat.zero_le _, by omega, rfl, Rd.grew hs3 ((Keeps.refl _ _).alloc _), ⟨Blk.new w3 _ _, Row.nil _ _ _ _, fun b e => by simp [Value.ownBlock] at e⟩, ⟨Nat.zero_le _, fun _ => rfl, Nat.zero_le _⟩, hK4⟩
  case round =>
    obtain ⟨k, s, vw, z, hk, hk4, rfl, hs, hW, hT, hK⟩ := hrel
    have hvw := fun b (e : vw.ownBlock = some b) => hW.2.1.lt b e
    have hsk := hK.size
    have hwgl := hW.1.lt
    by_cases hlt : k < cs.length ∧ k < 400
    · obtain ⟨hlt, hl4⟩ := hlt
      obtain ⟨c, b, o, rfl, hcc, -⟩ := (hB.grew hK).get k hlt
      obtain ⟨q, hq⟩ : ∃ q, q = roundF c 4 := ⟨_, rfl⟩
      have hq4 := roundF_lt c 4 (by omega)
      rw [← hq] at hq4
      have HT := Lib.hid hT
      clear hT hs3 hK4
      go_wp2_with fail
      refine (round_any c 4 wr (by omega) (by omega)).mono ?_
      rintro e w4 ⟨rfl, rfl⟩
      rw [← hq]
      clear hq
      go_wp2_with fail
      refine (cread_any g w1.heap.size v zs s (1 + q) w4 hs hr HB.out (by omega)).mono ?_
      rintro e w5 ⟨nn, bs, s', hF, A2, c2, rfl, n2, nn2, no2, hs5, hk5⟩
      obtain ⟨hT', hzl⟩ := HT.out.next hF
      have HF := Lib.hid hF
      have HT2 := Lib.hid hT'
      have hfl := hF.len
      have hfr := hF.range
      have hsz5 := hk5.size
      have hW5 : Wr w5 w3.heap.size w3.heap.size vw false z := hW.keeps hk5 (fun e => by have : w3.heap.size = g := e; omega) (fun b hb e => by have : b = g := e; have := (hvw b hb).1; omega)
      have hx := Blk.new w5 32 [.int .i64 (1 + q), .int .i64 nn, .slice A2 bs.length c2]
      have hkx : Keeps None w5 (w5.alloc (.cells #[.int .i64 (1 + q), .int .i64 nn, .slice A2 bs.length c2] 32)) := (Keeps.refl _ _).alloc _
      have hnum : ∀ w', Keeps (Wt w3.heap.size vw) (w5.alloc (.cells #[.int .i64 (1 + q), .int .i64 nn, .slice A2 bs.length c2] 32)) w' → Nums .u8 w' A2 bs := fun w' h =>
        (n2.grew hkx).keeps h (fun b o e f => by
          have h1 := no2 b o e
          rcases f with f | f
          · omega
          · have := (hvw b f).2; omega)
      have HNU := Lib.hid hnum
      clear hF hT' hnum n2
      go_wp2_with fail
      refine (putting_wide w3.heap.size w3.heap.size vw false z (1 + q) nn A2 bs.length c2 bs _ (hW5.grew hkx) (by simp; omega) HNU.out rfl (by omega) HF.out.bytes hfr (by omega) (by have := HT.out.len; omega)).mono ?_
      rintro e w6 ⟨rfl, v6, hW6, hk6, hn6⟩
      rw [if_neg (fun h => by have := HF.out.pos h.1; omega), if_neg (fun h => by have := HF.out.pos h.1; omega)] at hW6
      go_wp2_with fail
      go_roundw
      case rel =>
        refine ⟨k + 1, s', v6, _, by omega, by omega, by go_num, ?_, hW6, HT2.out, ?_⟩
        · exact Rd.keeps (Rd.grew hs5 hkx) hk6 (fun e => by rcases e with e | e; (have : g = w3.heap.size := e; omega); (have := (hvw _ e).1; omega)) (fun b e f => by have := (hvl3 b e).2; rcases f with f | f; omega; (have := (hvw _ f).1; omega))
        · exact ((hK.andThen hk5 (fun i hi e => by have : i = g := e; omega)).trans hkx).andThen hk6 (fun i hi e => by rcases e with e | e; (have h0 := hK3.size; omega); (have := (hvw _ e).1; have h0 := hK3.size; omega))
      case measure => simp [intOf]; omega
    · have hge : ¬ k < cs.length ∨ (k < cs.length ∧ ¬ k < 400) := by omega
      have HT := Lib.hid hT
      clear hT hs3 hK4
      have hzr : z.length ≤ 140737488355328 := by have := HT.out.len; omega
      rcases hge with hq | ⟨hq, hq4⟩
      all_goals
        go_wp2_with fail
        refine (rend_any g w1.heap.size v zs s wr hs hr).mono ?_
        rintro e w4 ⟨rfl, hs4, hk4'⟩
        have hW4 : Wr w4 w3.heap.size w3.heap.size vw false z := hW.keeps hk4' (fun e => by have : w3.heap.size = g := e; omega) (fun b hb e => by have : b = g := e; have := (hvw b hb).1; omega)
        have hK4 : Keeps None w w4 := hK.andThen hk4' (fun i hi e => by have : i = g := e; omega)
        obtain ⟨t, ht⟩ : ∃ t, t = endStep zs s := ⟨_, rfl⟩
        rw [← ht] at hs4
        have HTT := Lib.hid ht
        clear ht
        go_wp2_with fail
        refine (rerr_any g w1.heap.size v zs t w4 hs4).mono ?_
        rintro e w5 ⟨rfl, hd5⟩
        have hW5 := hW4.grew (hd5.keeps None)
        have hK5 := hK4.trans (hd5.keeps None)
        go_wp2_with fail
        refine (wdone_wide w3.heap.size w3.heap.size vw false z w5 hW5 hzr).mono ?_
        rintro e w6 ⟨v6, rfl, hv6, hk6⟩
        simp only [Bool.false_eq_true, if_false] at hv6 ⊢
        obtain ⟨A6, c6, rfl, -, n6, -⟩ := hv6.open_
        clear hv6
        have hK6 := hK5.trans hk6
        by_cases h0 : t.err = 0
        · have hz : z = zs := by
            have e1 := HTT.out
            unfold endStep at e1
            by_cases hm : s.err = 0 ∧ s.p < zs.length
            · rw [if_pos hm] at e1
              rw [e1] at h0
              cases h0
            · rw [if_neg hm] at e1
              subst e1
              have := HT.out.le
              rw [HT.out.ok h0, List.take_of_length_le (by omega)]
          subst hz
          obtain ⟨t1, t2⟩ := test_eq h0
          go_wp2_with fail
          refine (same_any A6 z.length c6 z A z.length cap z w6 n6 rfl (hA.grew hK6) rfl hr).mono ?_
          rintro e w7 ⟨rfl, hd7⟩
          rw [show SameB z z = true by simp [SameB]]
          go_wp2_with fail
          go_ret
          exact ⟨rfl, (hK6.trans (hd7.keeps None)).to_below⟩
        · obtain ⟨t1, t2⟩ := test_ne h0
          go_wp2_with fail
          go_ret
          exact ⟨rfl, hK6.to_below⟩
end Go.Proofs.Ytnhhmkgcgogddaa.wireForms
