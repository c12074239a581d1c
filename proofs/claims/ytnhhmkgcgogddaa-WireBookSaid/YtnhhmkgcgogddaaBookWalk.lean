/- The walk of WireBook. -/
import Derived.Test.YtnhhmkgcgogddaaBookState
import Derived.Deep.DeepCutAuto
import Derived.Deep.CutBlock
namespace Go.Proofs.Ytnhhmkgcgogddaa.wireBook
open Go.RowKit Go.Proofs.Ytnhhmkgcgogddaa.wireWrites Go.Proofs.Ytnhhmkgcgogddaa.wireBack Go.Proofs.Ytnhhmkgcgogddaa.putLoop Go.Proofs.Ytnhhmkgcgogddaa.apart
set_option linter.unusedVariables false

set_option maxRecDepth 100000 in
set_option maxHeartbeats 12800000 in
theorem walk (A : Option Addr) (n cap : Nat) (its : List It) (B : Option Addr) (m cap' : Nat) (bys : List By) (w : World) (hA : ItsAt w A its) (hraw : ∀ x ∈ its, x.Raw w) (hn : its.length = n) (hr : n ≤ 140737488351232)
    (hB : BysAt w B bys) (hrawB : ∀ x ∈ bys, x.Raw w) (hm : bys.length = m) (hrm : m ≤ 140737488351232) :
    Calls Try.prog 13 #[.slice A n cap, .slice B m cap'] w (wireBack.LawEnd w) := by
  subst hn
  subst hm
  have HRA := Lib.hid hraw
  have HRB := Lib.hid hrawB
  have HIA := Lib.hid hA
  have HIB := Lib.hid hB
  clear hraw hrawB hA hB
  obtain ⟨i0, hi0, hz0, hz1, hz2⟩ := info_parts Try.infoU8
  obtain ⟨i1, hi1, hy0, hy1, hy2⟩ := info_parts Try.infoBs
  obtain ⟨K0, hK0⟩ : ∃ K0, K0 = min its.length 60 := ⟨_, rfl⟩
  have hK0b : K0 ≤ 60 ∧ K0 ≤ its.length ∧ (K0 = 60 ∨ K0 = its.length) := by omega
  have HK0 := Lib.hid hK0
  clear hK0
  go_enter Try.func13, Try.ntmps13
  go_upto_block 0 with (fail)
  obtain ⟨g, hg⟩ : ∃ g, g = w.heap.size := ⟨_, rfl⟩
  obtain ⟨w0, hw0⟩ : ∃ w0, w0 = w.alloc (.cells #[.slice Option.none 0 0, .bool false] 30) := ⟨_, rfl⟩
  have hW0 : Wr w0 g g (.slice Option.none 0 0) false (outF (goF its 0)) := by
    rw [goF_zero, hw0, hg]
    exact ⟨Blk.new w _ _, Row.nil _ _ _ _, fun b e => by simp [Value.ownBlock] at e⟩
  have hk0 : Keeps None w w0 := by rw [hw0]; exact (Keeps.refl _ _).alloc _
  have hgw : w.heap.size ≤ g := by omega
  rw [← hw0, ← hg]
  clear hw0 hg
  go_cut [] (fun wx => ∃ v, Wr wx g g v false (outF (goF its K0)) ∧ Keeps None w wx)
  case first =>
    go_wp2_with fail
    go_loopw [6] (fun i wr => ∃ (k : Nat) (v : Value), k ≤ K0 ∧ i = .int .i64 k ∧ Wr wr g g v false (outF (goF its k)) ∧ Keeps None w wr) (fun i _ => 60 - (intOf i).toNat)
    case atStart => exact ⟨0, _, by omega, rfl, hW0, hk0⟩
    case round =>
      clear hW0 hk0
      obtain ⟨k, v, hk, rfl, hW, hK⟩ := hrel
      by_cases hlt : k < K0
      · have hlt1 : k < its.length := by omega
        have hlt2 : k < 60 := by omega
        obtain ⟨x, hx⟩ : ∃ x, its[k]? = some x := ⟨_, List.getElem?_eq_getElem hlt1⟩
        have raw := HRA.out x (List.mem_of_getElem? hx)
        have HY := Lib.hid (fun h => goF_yes hx h)
        have HNo := Lib.hid (fun h => goF_no hx h)
        obtain ⟨kind, nn, Ax, lx, cx, bs⟩ := x
        obtain ⟨b, o, rfl, c0, c1, c2⟩ := (HIA.out.grew hK) k _ hx
        clear hx
        simp only at c0 c1 c2
        have hnn := raw.n
        simp only at hnn
        have hol := outF_len HRA.out k
        obtain ⟨zs, hzs⟩ : ∃ zs, zs = outF (goF its k) := ⟨_, rfl⟩
        rw [← hzs] at hW hol
        have HZ := Lib.hid hzs
        have HRW := Lib.hid raw
        clear hzs raw
        go_wp2_with fail
        refine (right_any kind nn Ax lx cx wr hnn).mono ?_
        rintro e w1 ⟨rfl, hk1⟩
        have hKin := rightK_in kind
        have hKp := rightN_pos kind nn
        have hNin := rightN_in kind nn hnn
        obtain ⟨K, hKe⟩ : ∃ K, K = rightK kind := ⟨_, rfl⟩
        obtain ⟨M, hMe⟩ : ∃ M, M = rightN kind nn := ⟨_, rfl⟩
        rw [← hKe, ← hMe] at hKp
        rw [← hKe] at hKin
        rw [← hMe] at hNin
        rw [← hKe, ← hMe]
        have HK := Lib.hid hKe
        have HM := Lib.hid hMe
        have HKP := Lib.hid hKp
        clear hKe hMe hKp c0 c1 c2
        have k12 : Keeps None wr (w1.alloc (.cells #[.int .i64 K, .int .i64 M, .slice Ax lx cx] 32)) := hk1.alloc _
        have bx := Blk.new w1 32 [.int .i64 K, .int .i64 M, .slice Ax lx cx]
        have d0 := bx.cell 0 _ rfl
        have d1 := bx.cell 1 _ rfl
        have d2 := bx.cell 2 _ rfl
        have hW1 := hW.grew k12
        have hK1 := hK.trans k12
        have hgl := hW.1.lt
        have hvlt := fun b (e : v.ownBlock = some b) => hW.2.1.lt b e
        by_cases hl : lx ≤ 2000
        · have HY2 := Lib.hid (HY.out hl)
          have hNum : ∀ w', Keeps (Wt g v) (w1.alloc (.cells #[.int .i64 K, .int .i64 M, .slice Ax lx cx] 32)) w' → Nums .u8 w' Ax bs := fun w' h =>
            HRW.out.nums.grew (hK1.andThen h (fun i hi e => by
              rcases e with e | e
              · omega
              · have := (hvlt i e).1; omega))
          have HNU := Lib.hid hNum
          clear HY HNo hNum
          go_wp2_with fail
          refine (putting_any g g v false zs K M Ax lx cx bs _ hW1 (by have := k12.size; omega) HNU.out HRW.out.len (by omega) HRW.out.bytes hNin hKin (by omega)).mono ?_
          rintro e w2 ⟨rfl, v2, hP, hk2, hn2⟩
          rw [if_neg (fun h => by have := HKP.out h.1; omega), if_neg (fun h => by have := HKP.out h.1; omega)] at hP
          have hK2 : Keeps None w w2 := hK1.andThen hk2 (fun i hi e => by
            rcases e with e | e
            · omega
            · have := (hvlt i e).1; omega)
          go_wp2_with fail
          go_roundw
          case rel =>
            refine ⟨k + 1, v2, by omega, by go_num, ?_, hK2⟩
            rw [HY2.out, outF_snoc, ← HZ.out]
            show Wr w2 g g v2 false (zs ++ itemF (rightK kind) (rightN kind nn) bs)
            rw [← HK.out, ← HM.out]
            exact hP
          case measure => simp [intOf]; omega
        · have HN2 := Lib.hid (HNo.out hl)
          clear HY HNo
          go_wp2_with fail
          go_roundw
          case rel => exact ⟨k + 1, v, by omega, by go_num, by rw [HN2.out, ← HZ.out]; exact hW1, hK1⟩
          case measure => simp [intOf]; omega
      · obtain rfl : k = K0 := by omega
        by_cases hlt1 : k < its.length
        all_goals
          go_wp2_with fail
          go_meet
          exact ⟨v, hW, hK⟩
  case rest =>
    clear hW0 hk0
    obtain ⟨vw, hW, hK⟩ := hcut
    rename World => wa
    have hol := outF_len HRA.out K0
    have hob := outF_bytes_go HRA.out K0
    obtain ⟨zs, hzs⟩ : ∃ zs, zs = outF (goF its K0) := ⟨_, rfl⟩
    rw [← hzs] at hW hol hob
    have HZ := Lib.hid hzs
    clear hzs
    have hzl : zs.length ≤ 3932760 := by omega
    clear hol
    go_wp2_with fail
    refine (wdone_any g g vw false zs wa hW (by omega)).mono ?_
    rintro e w1 ⟨vf, rfl, hf1, hk1⟩
    have hf1 : Row .u8 5 w1 wa.heap.size vf zs := hf1
    obtain ⟨Af, cf, rfl, -, nf, hfn, hfl, -⟩ := hf1.open_
    have hW1 := hW.grew hk1
    have hK1 := hK.trans hk1
    have s1 := hk1.size
    have nf1 := nf.grew ((Keeps.refl None w1).alloc (.cells #[] 5))
    go_wp2_with (at_builtin; refine wpList_append_row _ rfl (.tmp 54) (.tmp 55) 23 rfl w1.heap.size 5 i0 (.int .u8 0) 1 1 Try.underlying23 hi0 hz0 hz1 hz2 rfl (by decide) _ 0 _ rfl (row_new (Nat.le_refl _)).raw Af zs.length cf (zs.map (Value.int .u8)) rfl (by rw [List.length_map, Nat.mul_one]) hfn nf1.src (ints_oneCell _ _) (by unfold maxLen; omega) (by omega) (by simp) ?_; intro vq w2 hown hk2 hloc; have r2 : Row .u8 5 w2 w1.heap.size vq ([] ++ zs) := Row.of_append rfl rfl hown; clear hown)
    have r2 : Row .u8 5 w2 w1.heap.size vq zs := r2
    have k12 : Keeps None w1 w2 := ((Keeps.refl None w1).alloc _).own (row_new (Nat.le_refl _)) (Nat.le_refl _) hk2
    obtain ⟨Aq, cq, rfl, -, nq, -, hql, -⟩ := r2.open_
    have hW2 := hW1.grew k12
    have hK2 := hK1.trans k12
    have nf2 := nf.grew k12
    have s2 := k12.size
    have vwl : ∀ b, vw.ownBlock = some b → b < w2.heap.size := fun b e => (hW2.2.1.lt b e).2
    have hgl2 := hW2.1.lt
    have hfl2 : ∀ b o, Af = some ⟨b, o, Option.none⟩ → b < w2.heap.size := fun b o e => by have := (hfl b o e).2.2; omega
    have hql2 : ∀ b o, Aq = some ⟨b, o, Option.none⟩ → b < w2.heap.size := fun b o e => (hql b o e).2.2
    clear hf1 nf hfn hfl nf1 hW hW1 hK hK1 hk1 hk2 hloc r2 k12 hql s1
    obtain ⟨B0, hB0⟩ : ∃ B0, B0 = w2.heap.size := ⟨_, rfl⟩
    have hBk : Bk w2 w2 B0 (.slice Option.none 0 0) [] 0 := ⟨⟨fun i v zs e => by simp at e, fun i j v zs u ys b e => by simp at e⟩, World.ownsRow_nil _ _ _ _, fun b h => by obtain ⟨i, v, zs, e, _⟩ := h; simp at e, fun i v zs e => by simp at e, Nat.le_refl _, Keeps.refl _ _, by omega⟩
    have hBs : B0 ≤ w2.heap.size ∧ w2.heap.size ≤ B0 := by omega
    clear hB0
    -- what stays: nothing below B0 turns
    have wr2 : ∀ W, Keeps (fun k => B0 ≤ k) w2 W → Wr W g g vw false zs ∧ Nums .u8 W Aq zs ∧ Keeps None w W := fun W hk =>
      ⟨hW2.keeps hk (by omega) (fun b e f => by have := vwl b e; omega), nq.keeps hk (fun b o e f => by have := hql2 b o e; omega), hK2.andThen hk (fun i hi e => by have := hK2.size; omega)⟩
    have WR2 := Lib.hid wr2
    clear wr2
    go_wp2_with fail
    go_loopw [11, 12] (fun av i wr => ∃ (t : Nat) (rs : Lot), t ≤ 3 ∧ i = .int .i64 t ∧ Bk w2 wr B0 av rs (61 * t)) (fun _ i _ => 3 - (intOf i).toNat)
    case atStart => exact ⟨0, [], by omega, rfl, hBk⟩
    case round =>
      clear hBk
      obtain ⟨t, rs, ht, rfl, hBk⟩ := hrel
      by_cases ht3 : t < 3
      · obtain ⟨hWr, hNq, hKr⟩ := WR2.out _ hBk.keeps
        go_wp2_with fail
        refine (wdone_any g g vw false zs wr hWr (by omega)).mono ?_
        rintro e w3 ⟨vb, rfl, hb3, hk3⟩
        have hb3 : Row .u8 5 w3 wr.heap.size vb zs := hb3
        have hblt := fun b (e : vb.ownBlock = some b) => hb3.lt b e
        obtain ⟨Ab, cb, rfl, -, nb3, -⟩ := hb3.open_
        have hBk3 := hBk.grew hk3
        have hNq3 := hNq.grew hk3
        go_wp2_with fail
        refine (read_any Ab zs.length cb zs w3 nb3 rfl (by omega)).mono ?_
        rintro e w4 ⟨gr, vr, rfl, hr4, hk4⟩
        have hBk4 := hBk3.grew hk4
        have hNq4 := hNq3.grew hk4
        have nb4 := nb3.grew hk4
        have hb4 := hb3.grew hk4
        go_wp2_with fail
        refine (same_any Ab zs.length cb zs Aq zs.length cq zs w4 nb4 rfl hNq4 rfl (by omega)).mono ?_
        rintro e w5 ⟨rfl, hd5⟩
        rw [SameB_self]
        have hk5 := hd5.keeps None
        have hBk5 := hBk4.grew hk5
        have hr5 : (⟨0, 0, 0⟩ : St).at w5 gr w3.heap.size vr zs := Rd.grew hr4 hk5
        have hb5 := (hb4.grew hk5).down (base' := B0) hBk.base
        have al := hBk5.all
        obtain ⟨Aa, ca, rfl⟩ := owns_open al
        have hcnt := hBk5.cnt
        have hbs5 := hBk5.base
        have s3 := hk3.size
        have s4 := hk4.size
        have hbase0 := hBk.base
        have avl := hBk.avlt
        have hlt_rs : ∀ b, OwnM rs b → b < wr.heap.size := fun b hb => (Many.lt hBk.many hb).2
        have hM5 : Many w5 B0 (rs ++ [(.slice Ab zs.length cb, zs)]) := Many.snoc hBk5.many hb5 (fun b e f => by have := (hblt b e).1; have := hlt_rs b f; omega)
        have hO5 : ∀ b, OwnM (rs ++ [(.slice Ab zs.length cb, zs)]) b → ¬ (Value.slice Aa rs.length ca).ownBlock = some b := fun b f e => by
          rcases OwnM.app f with f | f
          · exact hBk.off b f e
          · have := (hblt b (OwnM.one f)).1; have := (avl b e).2; omega
        have HM5 := Lib.hid hM5
        have HO5 := Lib.hid hO5
        clear hBk3 hBk4 hBk hNq hNq3 hNq4 nb3 nb4 hb3 hb4 hd5 hM5 hO5 hb5 hWr hKr
        go_wp2_with (at_builtin; refine wpList_append_row _ rfl (.tmp 77) (.tmp 79) 66 rfl B0 23 i1 (.slice Option.none 0 0) 1 24 Try.underlying66 hi1 hy0 hy1 hy2 rfl (by decide) _ rs.length _ rfl (owns_grew al ((Keeps.refl None _).alloc _)) (some ⟨w5.heap.size, 0, Option.none⟩) 1 1 [Value.slice Ab zs.length cb] rfl rfl (fun e => by cases e) (src_new w5 23 _ _ rfl) (by intro u hu; simp at hu; subst hu; rfl) (by unfold maxLen; omega) (by omega) (by simp; omega) ?_; intro av6 w6 hown hk6 hloc)
        obtain ⟨hBk6, hav6⟩ := hBk5.push HM5.out HO5.out (fun i v z e => by have := List.mem_of_getElem? e; simp at this; obtain ⟨rfl, rfl⟩ := this; omega) ((Keeps.refl None w5).alloc _) hown hk6 hloc
        have hr6 : (⟨(outF (goF its 0)).length, 0, 0⟩ : St).at w6 gr w3.heap.size vr zs := by
          have e0 : (outF (goF its 0)).length = 0 := by rw [goF_zero]; rfl
          rw [e0]
          have hav : ∀ b, (Value.slice Aa rs.length ca).ownBlock = some b → b < wr.heap.size := fun b e => (avl b e).2
          refine Rd.keeps (Rd.grew hr5 ((Keeps.refl None w5).alloc (.cells #[Value.slice Ab zs.length cb] 23))) hk6 (fun e => ?_) (fun b e f => ?_)
          · have := hav gr e; have := Rd.hb hr5; omega
          · have := hav b f; have := ((Rd.row hr5).lt b e).1; omega
        have hro : ∀ b, (b = gr ∨ vr.ownBlock = some b) → ¬ OwnM (rs ++ [(.slice Ab zs.length cb, zs)]) b ∧ ¬ av6.ownBlock = some b := by
          have h1 := Rd.hb hr5
          have h2 := fun b e => ((Rd.row hr5).lt b e).1
          have h3 := fun b e => ((Rd.row hr5).lt b e).2
          have h4 := (Rd.blk hr5).lt
          intro b hb
          have hb3 : w3.heap.size ≤ b ∧ b < w5.heap.size := by
            rcases hb with e | e
            · subst e; exact ⟨h1, h4⟩
            · exact ⟨h2 b e, h3 b e⟩
          refine ⟨fun f => ?_, fun f => ?_⟩
          · rcases OwnM.app f with f | f
            · have := hlt_rs b f; omega
            · have := (hblt b (OwnM.one f)).2; omega
          · rcases hav6 b f with e | e
            · have := (avl b e).2; omega
            · omega
        obtain ⟨rs6, hrs6⟩ : ∃ q, q = rs ++ [((Value.slice Ab zs.length cb), zs)] := ⟨_, rfl⟩
        rw [← hrs6] at hBk6 hro
        have hB6 : w6.heap.size ≥ B0 := hBk6.base
        have hrb : B0 ≤ gr ∧ (∀ b, vr.ownBlock = some b → B0 ≤ b) := ⟨by have := Rd.hb hr5; omega, fun b e => by have := ((Rd.row hr5).lt b e).1; omega⟩
        obtain ⟨br, hbr⟩ : ∃ br, br = w3.heap.size := ⟨_, rfl⟩
        rw [← hbr] at hr6
        have hBk6' : Bk w2 w6 B0 av6 rs6 (61 * t + 1 + 0) := hBk6
        clear hBk6 hrs6 hbr hBk5 al hown hk6 hloc hav6 hr4 hr5 hblt avl hlt_rs HM5 HO5 hcnt s3 s4 hk3 hk4 hk5
        go_wp2_with fail
        go_loopw [11, 16] (fun av i wx => ∃ (k : Nat) (rs : Lot), k ≤ K0 ∧ i = .int .i64 k ∧ (⟨(outF (goF its k)).length, 0, 0⟩ : St).at wx gr br vr zs ∧ Bk w2 wx B0 av rs (61 * t + 1 + k) ∧ (∀ b, (b = gr ∨ vr.ownBlock = some b) → ¬ OwnM rs b ∧ ¬ av.ownBlock = some b)) (fun _ i _ => 60 - (intOf i).toNat)
        case atStart => exact ⟨0, rs6, by omega, rfl, hr6, hBk6', hro⟩
        case round =>
          clear hr6 hBk6' hro hB6
          rename World => wx
          obtain ⟨k, rs, hk, rfl, hRd, hBk, hro⟩ := hrel
          obtain ⟨hWr, hNq, hKr⟩ := WR2.out _ hBk.keeps
          clear hWr hNq
          by_cases hlt : k < K0
          · have hlt1 : k < its.length := by omega
            have hlt2 : k < 60 := by omega
            obtain ⟨x, hx⟩ : ∃ x, its[k]? = some x := ⟨_, List.getElem?_eq_getElem hlt1⟩
            have raw := HRA.out x (List.mem_of_getElem? hx)
            have HY := Lib.hid (fun h => goF_yes hx h)
            have HNo := Lib.hid (fun h => goF_no hx h)
            have HDr := Lib.hid (fun h => goF_drop hx h hlt)
            obtain ⟨kind, nn, Ax, lx, cx, bs⟩ := x
            obtain ⟨b, o, rfl, c0, c1, c2⟩ := (HIA.out.grew hKr) k _ hx
            have HX := Lib.hid hx
            clear hx
            simp only at c0 c1 c2
            have hnn := raw.n
            simp only at hnn
            have HRW := Lib.hid raw
            obtain ⟨P, hP⟩ : ∃ P, P = (outF (goF its k)).length := ⟨_, rfl⟩
            rw [← hP] at hRd
            have HP := Lib.hid hP
            clear raw hP
            go_wp2_with fail
            refine (right_any kind nn Ax lx cx wx hnn).mono ?_
            rintro e w1 ⟨rfl, hk1⟩
            have hKin := rightK_in kind
            obtain ⟨K, hKe⟩ : ∃ K, K = rightK kind := ⟨_, rfl⟩
            obtain ⟨M, hMe⟩ : ∃ M, M = rightN kind nn := ⟨_, rfl⟩
            rw [← hKe] at hKin
            rw [← hKe, ← hMe]
            have HK := Lib.hid hKe
            have HM := Lib.hid hMe
            clear hKe hMe c0 c1 c2
            have bx := Blk.new w1 32 [.int .i64 K, .int .i64 M, .slice Ax lx cx]
            have d0 := bx.cell 0 _ rfl
            have d1 := bx.cell 1 _ rfl
            have d2 := bx.cell 2 _ rfl
            obtain ⟨bp, hbp⟩ : ∃ bp, bp = w1.heap.size := ⟨_, rfl⟩
            obtain ⟨w3', hw3⟩ : ∃ w3', w3' = w1.alloc (.cells #[.int .i64 K, .int .i64 M, .slice Ax lx cx] 32) := ⟨_, rfl⟩
            have k13 : Keeps None wx w3' := by rw [hw3]; exact hk1.alloc _
            rw [← hbp, ← hw3] at bx
            have hbpl : wx.heap.size ≤ bp ∧ bp < w3'.heap.size := ⟨by have := hk1.size; omega, bx.lt⟩
            have HBP := Lib.hid hbp
            have HW3 := Lib.hid hw3
            clear hbp hw3
            have hRd3 : (⟨P, 0, 0⟩ : St).at w3' gr br vr zs := Rd.grew hRd k13
            have hBk3 := hBk.grew k13
            by_cases hl : lx ≤ 2000
            · have HY2 := Lib.hid (HY.out hl)
              have HDr2 := Lib.hid (HDr.out hl)
              clear HY HNo HDr
              have hGood := (goF_good HRA.out (k + 1) (rightIt ⟨kind, nn, Ax, lx, cx, bs⟩) (by rw [HY2.out]; simp)).1
              have HG := Lib.hid hGood
              clear hGood
              go_wp2_with fail
              rw [← HW3.out, ← HBP.out]
              obtain ⟨rest, hrest⟩ := HDr2.out
              have hrest2 : zs.drop P = It.out ⟨K, M, Ax, lx, cx, bs⟩ ++ rest := by
                rw [HZ.out, HP.out, hrest, HK.out, HM.out]; rfl
              have hG2 : putLoop.Good w ⟨K, M, Ax, lx, cx, bs⟩ := by
                rw [HK.out, HM.out]; exact HG.out
              clear hrest
              refine (cread_book gr br vr zs rest ⟨K, M, Ax, lx, cx, bs⟩ P w3' w hRd3 (by omega) hob hG2 hrest2).mono ?_
              rintro e w5 ⟨n2, A2, l2, c2, rfl, h1, h2, h3, hRd5, hk5⟩
              dsimp only at h1 h2 h3
              have hgrx : gr < wx.heap.size := (Rd.blk hRd).lt
              have hVR := Lib.hid (fun b e => ((Rd.row hRd).lt b e).2)
              have hM0 := Lib.hid hBk.many
              have hAV := Lib.hid (fun b e => (hBk.avlt b e).2)
              have bx5 := bx.keeps hk5 (fun e => by have e : bp = gr := e; omega)
              have hK5 : Keeps None w w5 := (hKr.trans k13).andThen hk5 (fun i hi e => by have e : i = gr := e; have := hrb.1; have := hK2.size; omega)
              have hBk5 := hBk3.keeps_ hk5 (fun b hb e => by have e : b = gr := e; exact (hro b (Or.inl e)).1 hb) (fun b hb e => by have e : b = gr := e; exact (hro b (Or.inl e)).2 hb) (fun b e => by have e : b = gr := e; rw [e]; exact hrb.1)
              have hS : ∀ W, Keeps None w5 W → Calls Try.prog 32 #[.agg #[.int .i64 K, .int .i64 M, .slice Ax lx cx], .agg #[.int .i64 K, .int .i64 n2, .slice A2 l2 c2]] W (SameItEnd W) := by
                intro W hk
                by_cases hK2' : K ≤ 2
                · obtain rfl := h1 hK2'
                  exact sameitem_num K _ Ax lx cx A2 l2 c2 W hK2'
                · obtain ⟨a1, a2⟩ := h2 (by omega)
                  exact sameitem_bytes K M n2 bs Ax lx cx A2 l2 c2 W (by omega) (HRW.out.nums.grew (hK5.trans hk)) HRW.out.len (a1.grew hk) a2 (by omega)
              have HS := Lib.hid hS
              have H3 := Lib.hid h3
              have hl2 : 2 < K → bs.length = l2 := fun hk => (h2 hk).2
              have HL2 := Lib.hid hl2
              have ky : Keeps None w5 (w5.alloc (.cells #[.int .i64 K, .int .i64 n2, .slice A2 l2 c2] 32)) := (Keeps.refl _ _).alloc _
              have bx6 := bx5.grew ky
              have q0 := bx6.cell 0 _ rfl
              have q1 := bx6.cell 1 _ rfl
              have q2 := bx6.cell 2 _ rfl
              have HKY := Lib.hid ky
              have hk35 := hk5.size
              clear h1 h2 h3 hS hl2 d0 d1 d2 bx bx5 ky hrest2 hG2 hRd3 hBk3 hBk
              go_wp2_with fail
              refine (HS.out _ HKY.out).mono ?_
              rintro e w7 ⟨rfl, hk7⟩
              have bx7 := bx6.grew hk7
              have by7 := (Blk.new w5 32 [.int .i64 K, .int .i64 n2, .slice A2 l2 c2]).grew hk7
              have k57 : Keeps None w5 w7 := HKY.out.trans hk7
              have e0 := bx7.cell 0 _ rfl
              have e2 := by7.cell 2 _ rfl
              have hBk7 := hBk5.grew k57
              have hRd7 : (⟨P + (It.out ⟨K, M, Ax, lx, cx, bs⟩).length, 0, 0⟩ : St).at w7 gr br vr zs := Rd.grew hRd5 k57
              have hPn : P + (It.out ⟨K, M, Ax, lx, cx, bs⟩).length = (outF (goF its (k + 1))).length := by
                rw [HY2.out, outF_snoc, List.length_append, ← HP.out, HK.out, HM.out]; rfl
              rw [hPn] at hRd7
              clear bx6 bx7 by7 q0 q1 q2 hBk5 hRd5 HKY hk7 hPn
              by_cases hK3 : K = 3
              · have hr5 := H3.out hK3
                obtain ⟨t1, t2⟩ := test_eq hK3
                have hr5l := fun b e => hr5.lt b e
                have hr7 := (hr5.grew k57).down (base' := B0) (by have := k13.size; have := hBk7.base; have := hrb; omega)
                have hrslt : ∀ b, OwnM rs b → b < wx.heap.size := fun b hb => (Many.lt (hM0.out) hb).2
                have hs13 := k13.size
                have hs57 := k57.size
                obtain ⟨Aa, ca, rfl⟩ := owns_open hBk7.all
                have hM7 : Many w7 B0 (rs ++ [(.slice A2 l2 c2, bs)]) := Many.snoc hBk7.many hr7 (fun b e f => by have := (hr5l b e).1; have := hrslt b f; omega)
                have hO7 : ∀ b, OwnM (rs ++ [(.slice A2 l2 c2, bs)]) b → ¬ (Value.slice Aa rs.length ca).ownBlock = some b := fun b f e => by
                  rcases OwnM.app f with f | f
                  · exact hBk7.off b f e
                  · have := (hr5l b (OwnM.one f)).1; have := hAV.out b e; omega
                have HM7 := Lib.hid hM7
                have HO7 := Lib.hid hO7
                have hcnt := hBk7.cnt
                have hbs7 := hBk7.base
                have al := hBk7.all
                clear hM7 hO7 hK3
                go_wp2_with (at_builtin; refine wpList_append_row _ rfl (.tmp 111) (.tmp 114) 66 rfl B0 23 i1 (.slice Option.none 0 0) 1 24 Try.underlying66 hi1 hy0 hy1 hy2 rfl (by decide) _ rs.length _ rfl (owns_grew al ((Keeps.refl None _).alloc _)) (some ⟨w7.heap.size, 0, Option.none⟩) 1 1 [Value.slice A2 l2 c2] rfl rfl (fun e => by cases e) (src_new w7 23 _ _ rfl) (by intro u hu; simp at hu; subst hu; rfl) (by unfold maxLen; omega) (by omega) (by simp; omega) ?_; intro av8 w8 hown hk8 hloc)
                obtain ⟨hBk8, hav8⟩ := hBk7.push HM7.out HO7.out (fun i v z e => by have := List.mem_of_getElem? e; simp at this; obtain ⟨rfl, rfl⟩ := this; have := HRW.out.len; simp only at this; omega) ((Keeps.refl None w7).alloc _) hown hk8 hloc
                have hRd8 : (⟨(outF (goF its (k + 1))).length, 0, 0⟩ : St).at w8 gr br vr zs :=
                  Rd.keeps (Rd.grew hRd7 ((Keeps.refl None w7).alloc (.cells #[Value.slice A2 l2 c2] 23))) hk8 (fun e => (hro gr (Or.inl rfl)).2 e) (fun b e f => (hro b (Or.inr e)).2 f)
                have hro8 : ∀ b, (b = gr ∨ vr.ownBlock = some b) → ¬ OwnM (rs ++ [(.slice A2 l2 c2, bs)]) b ∧ ¬ av8.ownBlock = some b := by
                  intro b hb
                  have hb2 : b < wx.heap.size := by
                    rcases hb with e | e
                    · rw [e]; exact hgrx
                    · exact hVR.out b e
                  refine ⟨fun f => ?_, fun f => ?_⟩
                  · rcases OwnM.app f with f | f
                    · exact (hro b hb).1 f
                    · have := (hr5l b (OwnM.one f)).1; omega
                  · rcases hav8 b f with e | e
                    · exact (hro b hb).2 e
                    · omega
                go_roundw
                case rel => exact ⟨k + 1, _, by omega, by go_num, hRd8, hBk8.weak (by simp; omega), hro8⟩
                case measure => simp [intOf]; omega
              · obtain ⟨t1, t2⟩ := test_ne hK3
                have HK3 := Lib.hid hK3
                clear hK3
                go_wp2_with fail
                go_roundw
                case rel => exact ⟨k + 1, rs, by omega, by go_num, hRd7, hBk7.weak (by omega), hro⟩
                case measure => simp [intOf]; omega
            · have HN2 := Lib.hid (HNo.out hl)
              clear HY HNo HDr
              go_wp2_with fail
              rw [← HW3.out]
              go_roundw
              case rel => exact ⟨k + 1, rs, by omega, by go_num, by rw [HN2.out, ← HP.out]; exact hRd3, hBk3.weak (by omega), hro⟩
              case measure => simp [intOf]; omega
          · obtain rfl : k = K0 := by omega
            by_cases hlt1 : k < its.length
            all_goals
              go_wp2_with fail
              go_roundw
              case rel => exact ⟨t + 1, rs, by omega, by go_num, hBk.weak (by omega)⟩
              case measure => simp [intOf]; omega
      · obtain rfl : t = 3 := by omega
        have hBk := hBk.weak (show 61 * 3 ≤ 183 by omega)
        clear ht ht3
        rw [show ((3 : Nat) : Int) = 3 from rfl]
        obtain ⟨J0, hJ0⟩ : ∃ J0, J0 = min bys.length 8 := ⟨_, rfl⟩
        have hJb : J0 ≤ 8 ∧ J0 ≤ bys.length ∧ (J0 = 8 ∨ J0 = bys.length) := by omega
        clear hJ0
        go_wp2_with fail
        go_loopw [11, 19] (fun av i wx => ∃ (j : Nat) (rs : Lot), j ≤ J0 ∧ i = .int .i64 j ∧ Bk w2 wx B0 av rs (183 + 4 * j)) (fun _ i _ => 8 - (intOf i).toNat)
        case atStart => exact ⟨0, rs, by omega, rfl, hBk⟩
        case round =>
          clear hBk
          rename World => wx
          obtain ⟨j, rs, hj, rfl, hBk⟩ := hrel
          obtain ⟨hWr, hNq, hKr⟩ := WR2.out _ hBk.keeps
          by_cases hlt : j < J0
          · have hlt1 : j < bys.length := by omega
            have hlt2 : j < 8 := by omega
            obtain ⟨x, hx⟩ : ∃ x, bys[j]? = some x := ⟨_, List.getElem?_eq_getElem hlt1⟩
            have raw := HRB.out x (List.mem_of_getElem? hx)
            obtain ⟨Ax, lx, cx, bs⟩ := x
            have hN0 := raw.nums
            have hbb : Bytes bs := raw.bytes
            have hll := raw.len
            have hnil := raw.nil
            simp only at hN0 hll hnil
            have HX : Hid (∀ W, Keeps None w W → ∃ b o, B = some ⟨b, o, Option.none⟩ ∧ W.cell? ⟨b, o + j, Option.none⟩ = some (.slice Ax lx cx)) := Lib.hid (fun W hk => (HIB.out.grew hk) j _ hx)
            obtain ⟨b, o, rfl, c0⟩ := HX.out wx hKr
            have HLL := Lib.hid hll
            have HNIL := Lib.hid hnil
            clear hx raw hll hnil hWr hNq
            have hj8 : decide ((j : Int) < 8) = true := by simp; omega
            by_cases hl : lx ≤ 2000
            · go_wp2_with fail
              go_loopw [11, 20] (fun av i wx => ∃ (u : Nat) (rs : Lot), u ≤ 2 ∧ i = .int .i64 u ∧ Bk w2 wx B0 av rs (183 + 4 * j + 2 * u)) (fun _ i _ => 2 - (intOf i).toNat)
              case atStart => exact ⟨0, rs, by omega, rfl, hBk⟩
              case round =>
                clear hBk c0 hKr
                rename World => wx
                obtain ⟨u, rs, hu, rfl, hBk⟩ := hrel
                obtain ⟨hWr, hNq, hKr⟩ := WR2.out _ hBk.keeps
                clear hWr hNq
                obtain ⟨b', o', eb, c0⟩ := HX.out wx hKr
                cases eb
                by_cases hu2 : u < 2
                · go_wp2_with fail
                  refine (seal_any Ax lx cx bs wx (hN0.grew hKr) hbb HLL.out HNIL.out).mono ?_
                  rintro e w1 ⟨vs, rfl, hs1, hk1⟩
                  have hsl := sealF_len bs (by have := HLL.out; omega)
                  have hsb := sealF_bytes bs hbb
                  have hop := openF_seal bs (by have := HLL.out; omega) hbb
                  obtain ⟨S, hS⟩ : ∃ S, S = sealF bs := ⟨_, rfl⟩
                  rw [← hS] at hs1 hsl hsb hop
                  have hslt := fun b e => hs1.lt b e
                  have HSl : S.length ≤ 2012 := by have := HLL.out; omega
                  clear hS hsl
                  obtain ⟨As, cs, rfl, hcs, ns, -⟩ := hs1.open_
                  go_wp2_with fail
                  refine (open_any As S.length cs S w1 ns hsb rfl (by omega) hcs).mono ?_
                  rintro e w3 ⟨vo, heo, ho3, hk3⟩
                  rw [hop] at heo ho3
                  subst heo
                  dsimp only at ho3 ⊢
                  have holt := fun b e => ho3.lt b e
                  obtain ⟨Ao, co, rfl, -, no, -⟩ := ho3.open_
                  have hk13 := hk1.trans hk3
                  obtain ⟨b', o', eb, c3⟩ := HX.out w3 (hKr.trans hk13)
                  cases eb
                  go_wp2_with fail
                  refine (same_any Ao bs.length co bs Ax lx cx bs w3 no rfl (hN0.grew (hKr.trans hk13)) HLL.out (by have := HLL.out; omega)).mono ?_
                  rintro e w4 ⟨rfl, hd4⟩
                  rw [SameB_self]
                  have hk4 := hd4.keeps None
                  have hBk4 := hBk.grew (hk13.trans hk4)
                  have s1 := hk1.size
                  have s3 := hk3.size
                  have s4 := hk4.size
                  have hb0 := hBk.base
                  have rs4 := (hs1.grew (hk3.trans hk4)).down (base' := B0) hb0
                  have ro4 := (ho3.grew hk4).down (base' := B0) (by omega)
                  have hrslt : ∀ b, OwnM rs b → b < wx.heap.size := fun b hb => (Many.lt hBk.many hb).2
                  have hAV := fun b e => (hBk.avlt b e).2
                  obtain ⟨Aa, ca, rfl⟩ := owns_open hBk4.all
                  have hM1 : Many w4 B0 (rs ++ [(.slice As S.length cs, S)]) := Many.snoc hBk4.many rs4 (fun b e f => by have := (hslt b e).1; have := hrslt b f; omega)
                  have hM4 : Many w4 B0 (rs ++ [(.slice As S.length cs, S)] ++ [(.slice Ao bs.length co, bs)]) := Many.snoc hM1 ro4 (fun b e f => by
                    rcases OwnM.app f with f | f
                    · have := (holt b e).1; have := hrslt b f; omega
                    · have := (holt b e).1; have := (hslt b (OwnM.one f)).2; omega)
                  rw [List.append_assoc, List.singleton_append] at hM4
                  have hO4 : ∀ b, OwnM (rs ++ [(.slice As S.length cs, S), (.slice Ao bs.length co, bs)]) b → ¬ (Value.slice Aa rs.length ca).ownBlock = some b := fun b f e => by
                    rcases OwnM.app f with f | f
                    · exact hBk4.off b f e
                    · have := hAV b e
                      rcases OwnM.two f with f | f
                      · have := (hslt b f).1; omega
                      · have := (holt b f).1; omega
                  have HM4 := Lib.hid hM4
                  have HO4 := Lib.hid hO4
                  have hcnt := hBk4.cnt
                  have hbs4 := hBk4.base
                  have al := hBk4.all
                  clear hM1 hM4 hO4 hop
                  go_wp2_with (at_builtin; refine wpList_append_row _ rfl (.tmp 157) (.tmp 160) 66 rfl B0 23 i1 (.slice Option.none 0 0) 1 24 Try.underlying66 hi1 hy0 hy1 hy2 rfl (by decide) _ rs.length _ rfl (owns_grew al ((Keeps.refl None _).alloc _)) (some ⟨w4.heap.size, 0, Option.none⟩) 2 2 [Value.slice As S.length cs, Value.slice Ao bs.length co] rfl rfl (fun e => by cases e) (src_new w4 23 _ _ rfl) (by intro u hu; simp at hu; rcases hu with rfl | rfl <;> rfl) (by unfold maxLen; omega) (by omega) (by simp; omega) ?_; intro av8 w8 hown hk8 hloc)
                  obtain ⟨hBk8, -⟩ := hBk4.push HM4.out HO4.out (fun i v z e => by
                    have := List.mem_of_getElem? e
                    simp at this
                    have hll := HLL.out
                    rcases this with ⟨rfl, rfl⟩ | ⟨rfl, rfl⟩ <;> omega) ((Keeps.refl None w4).alloc _) hown hk8 hloc
                  go_roundw
                  case rel => exact ⟨u + 1, _, by omega, by go_num, hBk8.weak (by simp; omega)⟩
                  case measure => simp [intOf]; omega
                · obtain rfl : u = 2 := by omega
                  go_wp2_with fail
                  refine (moved_any Ax lx cx bs wx (hN0.grew hKr) hbb HLL.out hl HNIL.out).mono ?_
                  rintro e w1 ⟨rfl, hk1⟩
                  go_wp2_with fail
                  go_roundw
                  case rel => exact ⟨j + 1, rs, by omega, by go_num, (hBk.grew hk1).weak (by omega)⟩
                  case measure => simp [intOf]; omega
            · go_wp2_with fail
              go_roundw
              case rel => exact ⟨j + 1, rs, by omega, by go_num, hBk.weak (by omega)⟩
              case measure => simp [intOf]; omega
          · obtain rfl : j = J0 := by omega
            have hf0 : Hid (∀ W, Keeps (fun k => B0 ≤ k) w2 W → Nums .u8 W Af zs) := Lib.hid (fun W hk => nf2.keeps hk (fun b o e f => by have := hfl2 b o e; omega))
            have hBk := hBk.weak (show 183 + 4 * j ≤ 215 by omega)
            by_cases hlt1 : j < bys.length
            all_goals
              go_wp2_with fail
              refine (wdone_any g g vw false zs wx hWr (by omega)).mono ?_
              rintro e w3 ⟨vl, rfl, hl3, hk3⟩
              have hl3 : Row .u8 5 w3 wx.heap.size vl zs := hl3
              have hllt := fun b e => hl3.lt b e
              obtain ⟨Al, cl, rfl, -, nl, -, hll, -⟩ := hl3.open_
              have hBk3 := hBk.grew hk3
              have hrslt : ∀ b, OwnM rs b → b < wx.heap.size := fun b hb => (Many.lt hBk.many hb).2
              have hoB : ∀ b, OwnM rs b → B0 ≤ b := fun b hb => (Many.lt hBk.many hb).1
              obtain ⟨Aa, ca, rfl⟩ := owns_open hBk3.all
              have hLie : Lies w3 Aa rs := fun i v zs e => by
                have hil := (List.getElem?_eq_some_iff.1 e).1
                obtain ⟨gk, c', e', hc⟩ := owns_at hBk3.all (by omega)
                cases e'
                exact ⟨gk, 0, rfl, fun f => hBk3.off gk f rfl, by rw [Nat.zero_add]; exact hc i v (by rw [List.getElem?_map, e]; rfl)⟩
              have hcnt := hBk3.cnt
              have hks : Keeps (fun k => B0 ≤ k) w2 w3 := hBk3.keeps
              have hrl3 := hBk3.base
              have HM3 := Lib.hid hBk3.many
              have HL3 := Lib.hid hBk3.len
              have HLie := Lib.hid hLie
              have HKS := Lib.hid hks
              clear hks hLie hBk hBk3 hl3 hNq hWr
              go_wp2_with fail
              refine (grown_any Aa rs.length ca rs B0 w3 HLie.out HM3.out rfl (by omega) (fun i v zs e => by have := HL3.out i v zs e; omega) hrl3).mono ?_
              rintro e w5 ⟨rfl, hk5⟩
              have hks5 : Keeps (fun k => B0 ≤ k) w2 w5 := HKS.out.trans (hk5.mono fun i _ e => hoB i e)
              have nf5 := hf0.out _ hks5
              obtain ⟨hW5, nq5, hK5⟩ := WR2.out _ hks5
              have nl5 := nl.keeps hk5 (fun b o e f => by have := (hll b o e).2.1; have := hrslt b f; omega)
              clear nl hks5 HLie HM3 HL3 HKS hk3 hk5
              go_wp2_with fail
              refine (same_any Af zs.length cf zs Aq zs.length cq zs w5 nf5 rfl nq5 rfl (by omega)).mono ?_
              rintro e w6 ⟨rfl, hd6⟩
              rw [SameB_self]
              have hk6 := hd6.keeps None
              have nl6 := nl5.grew hk6
              have nq6 := nq5.grew hk6
              have hW6 := hW5.grew hk6
              have hK6 := hK5.trans hk6
              clear hd6 hk6 nl5 nq5 nf5 hW5 hK5
              go_wp2_with fail
              refine (same_any Al zs.length cl zs Aq zs.length cq zs w6 nl6 rfl nq6 rfl (by omega)).mono ?_
              rintro e w7 ⟨rfl, hd7⟩
              rw [SameB_self]
              have hk7 := hd7.keeps None
              have hW7 := hW6.grew hk7
              have hK7 := hK6.trans hk7
              clear hd7 hk7 nl6 nq6 hW6 hK6
              go_wp2_with fail
              refine (rights_any A its.length cap its w7 (HIA.out.grew hK7) (fun x hx => by have r := HRA.out x hx; exact ⟨r.nums.grew hK7, r.len, r.bytes, r.nil, r.n, r.kind, r.most⟩) rfl hr).mono ?_
              rintro e w8 ⟨v8, rfl, hN8, hk8⟩
              rw [← HK0.out] at hN8
              have hgood := goF_good HRA.out K0
              have hglen := goF_len its K0
              obtain ⟨its2, hits2⟩ : ∃ q, q = goF its K0 := ⟨_, rfl⟩
              rw [← hits2] at hN8 hgood hglen
              have hout : zs = outF its2 := by rw [HZ.out, hits2]
              have hbad : its2.any It.bad = false := by
                rw [List.any_eq_false]
                intro x hx
                have hp := (hgood x hx).1.pos
                unfold It.bad
                simp only [Bool.and_eq_true, beq_iff_eq, decide_eq_true_eq, not_and]
                intro h
                have := hp h
                omega
              have hW8 := hW7.grew hk8
              have hK8 := hK7.trans hk8
              have hok8 : ∀ x ∈ its2, x.Ok w8 := fun x hx => (hgood x hx).1.ok.grew hK8
              obtain ⟨A8, c8, rfl, -, hI8⟩ := hN8.open_
              have HOUT := Lib.hid hout
              have HBAD := Lib.hid hbad
              clear hout hbad hgood hits2 hN8 hW7 hK7 hk8
              go_wp2_with fail
              refine (asked_any g g vw false zs A8 its2.length c8 its2 w8 hW8 hI8 hok8 rfl (by omega) (by omega) HBAD.out (fun _ => HOUT.out)).mono ?_
              rintro e w9 ⟨rfl, hk9⟩
              go_wp2_with fail
              go_ret
              exact ⟨rfl, (hK8.trans hk9).to_below⟩
end Go.Proofs.Ytnhhmkgcgogddaa.wireBook
