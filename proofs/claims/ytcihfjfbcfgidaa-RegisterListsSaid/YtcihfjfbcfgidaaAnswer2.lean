/- (laying).answer; the phases that answer nothing. -/
import Derived.Test.YtcihfjfbcfgidaaAnswer
namespace Go.Proofs.Ytcihfjfbcfgidaa
open Go.RowKit Go.Maps Go.Proofs.Ytcihfjfbcfgidaa.TG Go.Proofs.Ytcihfjfbcfgidaa.TB

def takesS (grp : List Int) (need : Int) (ss : List Int) (s : Int) : Bool := !(decide (s ∈ ss)) && !(decide (need ≤ (ss.length : Int))) && decide (s ∈ grp)
/-- A message that fits, while the block is laid down. -/
def layF (h : Hd) (round : Int) (ss : List Int) (tag : Int × Int) (ds : List Int) (kind s : Int) : Int × Ph × OutS :=
  if kind ≠ 12 ∨ takesS h.grp h.need ss s = false then (round, .laying ss tag ds, .no)
  else if ¬ (h.need ≤ (ss.length : Int) + 1) then (round, .laying (ss ++ [s]) tag ds, .no)
  else (round, .ended 0 tag (if h.wr then [] else ds), .no)

def zb (s : Int) : Int × Value := (s, TB.zeroB)
theorem lookV_zb (ss : List Int) (s : Int) : (lookV (ss.map zb) s).isSome = decide (s ∈ ss) := by
  unfold lookV
  rw [List.find?_map]
  simp only [Option.isSome_map]
  rw [Bool.eq_iff_iff]
  simp only [List.find?_isSome, decide_eq_true_eq, Function.comp]
  constructor
  · rintro ⟨x, hx, he⟩
    simp [zb] at he
    exact he ▸ hx
  · intro h
    exact ⟨s, h, by simp [zb]⟩
theorem takes_zb (grp : List Int) (need : Int) (ss : List Int) (s : Int) : takes grp need (ss.map zb) s = takesS grp need ss s := by
  unfold takes takesS
  rw [lookV_zb, List.length_map]
def ackMore (grp : List Int) (need : Int) (ss : List Int) (s : Int) : List Int := if takesS grp need ss s then ss ++ [s] else ss
theorem ackMore_zb (grp : List Int) (need : Int) (ss : List Int) (s : Int) : (ackMore grp need ss s).map zb = tookF grp need (ss.map zb) s TB.zeroB := by
  unfold ackMore tookF
  rw [takes_zb]
  split <;> simp [zb]
theorem tookB_zb (grp : List Int) (need : Int) (ss : List Int) (s : Int) : TookB grp need (ss.map zb) s = (takesS grp need ss s && decide (need ≤ (ss.length : Int) + 1)) := by
  unfold TookB
  rw [takes_zb, List.length_map]
theorem lay_false (h : Hd) (round : Int) (ss : List Int) (tag : Int × Int) (ds : List Int) (s : Int) (hT : TookB h.grp h.need (ss.map zb) s = false) : layF h round ss tag ds 12 s = (round, .laying (ackMore h.grp h.need ss s) tag ds, .no) := by
  rw [tookB_zb] at hT
  unfold layF ackMore
  cases ht : takesS h.grp h.need ss s
  · simp
  · rw [ht] at hT
    have h1 : ¬ h.need ≤ (ss.length : Int) + 1 := by simpa using hT
    simp [h1]
theorem lay_true (h : Hd) (round : Int) (ss : List Int) (tag : Int × Int) (ds : List Int) (s : Int) (hT : TookB h.grp h.need (ss.map zb) s = true) : layF h round ss tag ds 12 s = (round, .ended 0 tag (if h.wr then [] else ds), .no) := by
  rw [tookB_zb] at hT
  simp only [Bool.and_eq_true, decide_eq_true_eq] at hT
  unfold layF
  simp [hT.1, hT.2]
theorem ackMore_len {grp : List Int} {need : Int} {ss : List Int} {s : Int} (h : (ss.length : Int) ≤ need) : ((ackMore grp need ss s).length : Int) ≤ need := by
  unfold ackMore
  split
  · next ht =>
    unfold takesS at ht
    simp only [Bool.and_eq_true, Bool.not_eq_true', decide_eq_false_iff_not] at ht
    rw [List.length_append]
    simp
    omega
  · exact h

set_option maxRecDepth 100000 in
set_option maxHeartbeats 8000000 in
theorem answer2_any (g base : Nat) (X : Nat → Prop) (h : Hd) (round : Int) (v bl : Value) (tg : Nat) (vg : Value) (bm : Nat) (ss : List Int) (t1 t2 : Int) (Ad : Option Addr) (cd : Nat) (ds : List Int) (kind : Int) (fc : Bool) (fi : Int) (tc : Bool) (ti op rd q0 q1 q2 q3 s1 s2 h1 h2 : Int) (A : Option Addr) (cap : Nat) (zs : List Int) (c0 c1 c2 : Int) (nm : ByteArray) (c3 c4 c5 c6 c7 up : Int) (E : Option Addr) (en ec : Nat) (L : Option Addr) (ln lc : Nat) (D : Option Addr) (dn dc : Nat) (more : Bool) (w : World)
    (hg : ¬ X g ∧ base ≤ g) (hX : ∀ b, X b → base ≤ b ∧ b < w.heap.size) (ok : HdOk h)
    (hB : Blk w g 109 (mcells h.client h.op round h.need h.k0 h.k1 h.k2 h.k3 v h.wr bl h.size (layV tg (t1, t2) (.slice Ad ds.length cd)))) (hR : Row .i64 3 w base v h.grp) (hv : In X v) (hU : Row .u8 5 w base bl h.blk) (hbl : In X bl)
    (hT : TB.Tal w tg base vg h.grp h.need bm (ss.map zb)) (hD : Row .u8 5 w base (.slice Ad ds.length cd) ds) (hdx : In X (.slice Ad ds.length cd)) (hdl : ds.length ≤ MB) (hxt : X tg) (hxb : X bm) (hvg : In X vg) (hr : 1 ≤ round ∧ round ≤ 1099511627776) (hlen : (ss.length : Int) ≤ h.need)
    (hfi : (Lit.int .i64 fi).wf = true) :
    Calls Try.prog 113 #[.agg #[.pointer (some ⟨tg, 0, Option.none⟩), .int .i64 t1, .int .i64 t2, .slice Ad ds.length cd], .pointer (some ⟨g, 0, Option.none⟩), .agg #[.int .i64 kind, .bool fc, .int .i64 fi, .bool tc, .int .i64 ti, .int .i64 op, .int .i64 rd, .int .i64 q0, .int .i64 q1, .int .i64 q2, .int .i64 q3, .int .i64 s1, .int .i64 s2, .int .i64 h1, .int .i64 h2, .slice A zs.length cap, .int .i64 c0, .int .i64 c1, .int .i64 c2, .string nm, .int .i64 c3, .int .i64 c4, .int .i64 c5, .int .i64 c6, .int .i64 c7, .int .i64 up, .slice E en ec, .slice L ln lc, .slice D dn dc, .bool more]] w
      (StepEnd w base X g h (layF h round ss (t1, t2) ds kind fi).1 (layF h round ss (t1, t2) ds kind fi).2.1 (layF h round ss (t1, t2) ds kind fi).2.2) := by
  have hgl := hB.lt
  have htl := hT.lt
  have hmap : ∃ es c, w.heap[bm]? = some (.map es c) := by obtain ⟨D, ⟨es, clock, e, _⟩, _⟩ := hT.map; exact ⟨es, clock, e⟩
  obtain ⟨es, ck, hes⟩ := hmap
  have hgb : g ≠ bm := fun e => hg.1 (e ▸ hxb)
  obtain ⟨W, hW⟩ : ∃ W, W = (w.alloc (.cells #[.pointer (some ⟨tg, 0, Option.none⟩), .int .i64 t1, .int .i64 t2, .slice Ad ds.length cd] 183)).alloc (.cells #[.int .i64 kind, .bool fc, .int .i64 fi, .bool tc, .int .i64 ti, .int .i64 op, .int .i64 rd, .int .i64 q0, .int .i64 q1, .int .i64 q2, .int .i64 q3, .int .i64 s1, .int .i64 s2, .int .i64 h1, .int .i64 h2, .slice A zs.length cap, .int .i64 c0, .int .i64 c1, .int .i64 c2, .string nm, .int .i64 c3, .int .i64 c4, .int .i64 c5, .int .i64 c6, .int .i64 c7, .int .i64 up, .slice E en ec, .slice L ln lc, .slice D dn dc, .bool more] 66) := ⟨_, rfl⟩
  have kW : Keeps None w W := by rw [hW]; exact ((Keeps.refl None w).alloc _).alloc _
  have hWs : W.heap.size = w.heap.size + 2 := by rw [hW]; simp only [World.size_alloc]
  have hP : Blk W w.heap.size 183 [.pointer (some ⟨tg, 0, Option.none⟩), .int .i64 t1, .int .i64 t2, .slice Ad ds.length cd] := by rw [hW]; exact (Blk.new w _ _).alloc _
  have hM : Blk W (w.heap.size + 1) 66 [.int .i64 kind, .bool fc, .int .i64 fi, .bool tc, .int .i64 ti, .int .i64 op, .int .i64 rd, .int .i64 q0, .int .i64 q1, .int .i64 q2, .int .i64 q3, .int .i64 s1, .int .i64 s2, .int .i64 h1, .int .i64 h2, .slice A zs.length cap, .int .i64 c0, .int .i64 c1, .int .i64 c2, .string nm, .int .i64 c3, .int .i64 c4, .int .i64 c5, .int .i64 c6, .int .i64 c7, .int .i64 up, .slice E en ec, .slice L ln lc, .slice D dn dc, .bool more] := by
    have := Blk.new (w.alloc (.cells #[.pointer (some ⟨tg, 0, Option.none⟩), .int .i64 t1, .int .i64 t2, .slice Ad ds.length cd] 183)) 66 [.int .i64 kind, .bool fc, .int .i64 fi, .bool tc, .int .i64 ti, .int .i64 op, .int .i64 rd, .int .i64 q0, .int .i64 q1, .int .i64 q2, .int .i64 q3, .int .i64 s1, .int .i64 s2, .int .i64 h1, .int .i64 h2, .slice A zs.length cap, .int .i64 c0, .int .i64 c1, .int .i64 c2, .string nm, .int .i64 c3, .int .i64 c4, .int .i64 c5, .int .i64 c6, .int .i64 c7, .int .i64 up, .slice E en ec, .slice L ln lc, .slice D dn dc, .bool more]
    rw [← hW] at this
    simpa only [World.size_alloc] using this
  have hoff : ∀ {w' : World} {k : IntKind} {t : TypeId} {u : Value} {zs : List Int}, Keeps (One bm) w w' → Row k t w base u zs → Row k t w' base u zs := fun hk hu => hu.keeps hk (fun b e f => by
    simp only [One] at f
    subst f
    obtain ⟨cur, hc⟩ := owns_obj hu.raw e
    rw [hes] at hc
    cases hc)
  -- a machine that goes on
  have STAY : ∀ (w' : World) (ss' : List Int), Keeps (One bm) w w' → TB.Tal w' tg base vg h.grp h.need bm (ss'.map zb) → (ss'.length : Int) ≤ h.need → StepEnd w base X g h round (.laying ss' (t1, t2) ds) .no (.returned (.slice Option.none 0 0)) w' := by
    intro w' ss' hk hT' hl'
    have hs := hk.size
    refine ⟨X, w'.heap.size, _, rfl, ⟨⟨v, bl, _, hB.keeps hk (fun e => hgb (by simpa [One] using e)), hoff hk hR, hv, hoff hk hU, hbl, ⟨tg, vg, bm, _, rfl, hT', hoff hk hD, hdx, hdl, hxt, hxb, hvg, hr.1, hr.2, hl'⟩⟩, hg, fun b hb => ⟨(hX b hb).1, Nat.lt_of_lt_of_le (hX b hb).2 hs⟩, ok⟩, rfl, fun _ h => h, fun b hb => .inl hb, fun b hb => Nat.lt_of_lt_of_le (hX b hb).2 hs, hs, hk.mono (fun k _ e => by simp only [One] at e; exact .inl (e ▸ hxb))⟩
  have p0 := hP.cell 0 _ rfl
  have m0 := hM.cell 0 _ rfl
  have m2 := hM.cell 2 _ rfl
  by_cases hkind : kind = 12
  · subst hkind
    obtain ⟨T, hTT⟩ : ∃ T, T = TookB h.grp h.need (ss.map zb) fi := ⟨_, rfl⟩
    have hgotl : (ss.map zb).length ≤ 140737488351232 := by
      rw [List.length_map]
      have h1 := ok.grp
      have h2 : h.need = ((h.grp.length / 2 + 1 : Nat) : Int) := rfl
      omega
    have HTW := Lib.hid (hT.grew kW)
    have HS := Lib.hid STAY
    have HO := Lib.hid hes
    clear STAY
    go_enter Try.func113, Try.ntmps113
    go_wp2_with fail
    rw [← hW]
    clear hW
    refine (TB.take_any tg base vg h.grp h.need bm (ss.map zb) fi 0 0 Option.none 0 0 W HTW.out hfi (by have := ok.grp; omega) hgotl).mono ?_
    rintro e w3 ⟨rfl, hT3, hk3⟩
    have kw3 := kW.of_none.trans hk3
    have hT3' : TB.Tal w3 tg base vg h.grp h.need bm ((ackMore h.grp h.need ss fi).map zb) := by rw [ackMore_zb]; exact hT3
    have HT3 := Lib.hid hT3'
    rw [← hTT]
    clear hT3 hT3'
    cases hTc : T with
    | false =>
      have ea := Lib.hid (lay_false h round ss (t1, t2) ds fi (by rw [← hTT, hTc]))
      subst hTc
      clear hTT
      go_wp2_with fail
      go_ret
      rw [ea.out]
      exact HS.out w3 _ kw3 HT3.out (ackMore_len hlen)
    | true =>
      have ea := Lib.hid (lay_true h round ss (t1, t2) ds fi (by rw [← hTT, hTc]))
      subst hTc
      have hb0 : ¬ One bm w.heap.size := fun e => by simp only [One] at e; omega
      have hP3 := hP.keeps hk3 hb0
      have p1 := hP3.cell 1 _ rfl
      have p2 := hP3.cell 2 _ rfl
      have p3 := hP3.cell 3 _ rfl
      have hB3 := hB.keeps kw3 (fun e => hgb (by simpa [One] using e))
      have hR3 := hoff kw3 hR
      have hU3 := hoff kw3 hU
      have hD3 := hoff kw3 hD
      have hgX : ∀ b, X b → b ≠ g := fun b hb e => hg.1 (e ▸ hb)
      have hs3 := kw3.size
      have hkX : Keeps (fun k => X k ∨ k = g) w w3 := kw3.mono (fun k _ e => by simp only [One] at e; exact .inl (e ▸ hxb))
      obtain ⟨bw, hbw⟩ : ∃ b, b = h.wr := ⟨_, rfl⟩
      rw [← hbw] at hB3
      have HBW := Lib.hid hbw
      have HX := Lib.hid hgX
      clear hTT hbw hP hM m0 m2 p0 hgX
      have hB4 := hB3.alloc (.cells #[.int .i64 0, .string ⟨#[]⟩, .int .i64 0, .int .i64 0, .int .i64 0, .slice Option.none 0 0, .slice Option.none 0 0, .int .i64 0, .int .i64 t1, .int .i64 t2, .int .i64 0] 46)
      have n9 := hB4.cell 9 _ rfl
      have k4 : Keeps None w3 (w3.alloc (.cells #[.int .i64 0, .string ⟨#[]⟩, .int .i64 0, .int .i64 0, .int .i64 0, .slice Option.none 0 0, .slice Option.none 0 0, .int .i64 0, .int .i64 t1, .int .i64 t2, .int .i64 0] 46)) := (Keeps.refl _ _).alloc _
      cases bw with
      | true =>
        go_wp2_with fail
        refine (end_any g h.client h.op round h.need h.k0 h.k1 h.k2 h.k3 v true bl h.size _ 0 (t1, t2) Option.none 0 0 _ hB4).mono ?_
        rintro e w5 ⟨rfl, hB5, hk5⟩
        rw [HBW.out] at hB5
        have hgX := HX.out
        have hk05 := (hkX.trans k4.of_none).trans (hk5.mono (fun _ _ e => .inr e))
        have hfin := fin_ended hg hgl hX ok hB5 ((hR3.grew k4).keeps hk5 (fun b e f => hgX b (hv b e) f)) hv ((hU3.grew k4).keeps hk5 (fun b e f => hgX b (hbl b e) f)) hbl (Row.nil _ _ _ _) (In.nil _) (by simp) hk05
        have HF := Lib.hid hfin
        clear hfin hgX
        go_wp2_with fail
        go_ret
        rw [ea.out, ← HBW.out]
        exact HF.out
      | false =>
        have hP4 := hP3.alloc (.cells #[.int .i64 0, .string ⟨#[]⟩, .int .i64 0, .int .i64 0, .int .i64 0, .slice Option.none 0 0, .slice Option.none 0 0, .int .i64 0, .int .i64 t1, .int .i64 t2, .int .i64 0] 46)
        have p33 := hP4.cell 3 _ rfl
        have hB4' := hB3.alloc (.cells #[.int .i64 0, .string ⟨#[]⟩, .int .i64 0, .int .i64 0, .int .i64 0, .slice Option.none 0 0, .slice Ad ds.length cd, .int .i64 0, .int .i64 t1, .int .i64 t2, .int .i64 0] 46)
        have k4' : Keeps None w3 (w3.alloc (.cells #[.int .i64 0, .string ⟨#[]⟩, .int .i64 0, .int .i64 0, .int .i64 0, .slice Option.none 0 0, .slice Ad ds.length cd, .int .i64 0, .int .i64 t1, .int .i64 t2, .int .i64 0] 46)) := (Keeps.refl _ _).alloc _
        go_wp2_with fail
        refine (end_any g h.client h.op round h.need h.k0 h.k1 h.k2 h.k3 v false bl h.size _ 0 (t1, t2) Ad ds.length cd _ hB4').mono ?_
        rintro e w5 ⟨rfl, hB5, hk5⟩
        rw [HBW.out] at hB5
        have hgX := HX.out
        have hk05 := (hkX.trans k4'.of_none).trans (hk5.mono (fun _ _ e => .inr e))
        have hfin := fin_ended hg hgl hX ok hB5 ((hR3.grew k4').keeps hk5 (fun b e f => hgX b (hv b e) f)) hv ((hU3.grew k4').keeps hk5 (fun b e f => hgX b (hbl b e) f)) hbl ((hD3.grew k4').keeps hk5 (fun b e f => hgX b (hdx b e) f)) (hdx.mono (fun _ => .inl)) hdl hk05
        have HF := Lib.hid hfin
        clear hfin hgX
        go_wp2_with fail
        go_ret
        rw [ea.out, ← HBW.out]
        exact HF.out
  · have ea : layF h round ss (t1, t2) ds kind fi = (round, .laying ss (t1, t2) ds, .no) := by simp [layF, hkind]
    rw [ea]
    have tk : (kind != 12) = true := by simpa using hkind
    have hfin := STAY W ss kW.of_none (hT.grew kW) hlen
    have HF := Lib.hid hfin
    clear ea hfin hkind STAY
    go_enter Try.func113, Try.ntmps113
    go_wp2_with fail
    rw [← hW]
    go_ret
    exact HF.out
end Go.Proofs.Ytcihfjfbcfgidaa
