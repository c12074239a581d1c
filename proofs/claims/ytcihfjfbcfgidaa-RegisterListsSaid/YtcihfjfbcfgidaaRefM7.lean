/- The document's machine: Take. -/
import Derived.Test.YtcihfjfbcfgidaaRefM5
import Derived.Test.YtcihfjfbcfgidaaRefM6
namespace Go.Proofs.Ytcihfjfbcfgidaa
open Go.RowKit Go.Maps Go.Proofs.YtcihfjfbcfgidaaW.PrintLast
set_option linter.unusedVariables false

theorem VAt.grew_ {w w' : World} {P : Nat → Prop} {vb n : Nat} {f : Nat → Option ((Int × Int) × List Int)} (h : VAt w P vb n f) (hk : Keeps None w w') : VAt w' P vb n f := h.keeps hk (fun _ _ => id) id
/-- A message comes to the values. -/
theorem VAt.put {w : World} {P : Nat → Prop} {vb n : Nat} {f : Nat → Option ((Int × Int) × List Int)} (h : VAt w P vb n f) (hP : ¬ P vb) (k : Nat) (hk : k < n) (cs : List Value) (hl : cs.length = 30) (st : Int × Int) (ds : List Int) (dv : Value)
    (h11 : cs[11]? = some (.int .i64 st.1)) (h12 : cs[12]? = some (.int .i64 st.2)) (h15 : cs[15]? = some dv) (hd : Dat w P dv ds) (g : Nat → Option ((Int × Int) × List Int)) (hg : ∀ i st' ds', g i = some (st', ds') → (i = k ∧ st' = st ∧ ds' = ds) ∨ (i ≠ k ∧ f i = some (st', ds'))) :
    VAt (w.setCells vb (k * 30) cs) P vb n g := by
  have hkk : Keeps (One vb) w (w.setCells vb (k * 30) cs) := (Keeps.refl (One vb) w).setCells vb _ cs (fun _ => rfl)
  have hth : w.there vb (k * 30) cs.length := fun j hj => by
    have := h.there (k * 30 + j) (by omega)
    rwa [Nat.zero_add] at this
  have hsame := World.rangeAt_setCells_same w vb (k * 30) cs hth
  refine ⟨Nat.lt_of_lt_of_le h.lt hkk.size, World.there_setCells h.there _ _ _, fun i st' ds' hi e => ?_⟩
  rcases hg i st' ds' e with ⟨rfl, rfl, rfl⟩ | ⟨hik, ef⟩
  · exact ⟨dv, hsame 11 _ h11, hsame 12 _ h12, hsame 15 _ h15, hd.keeps hkk (fun b hb f => hP (f ▸ hb))⟩
  · obtain ⟨dv', a, b, c, d⟩ := h.at_ i st' ds' hi ef
    have hout : ∀ j, j < 30 → (w.setCells vb (k * 30) cs).cell? ⟨vb, i * 30 + j, Option.none⟩ = w.cell? ⟨vb, i * 30 + j, Option.none⟩ := fun j hj =>
      World.cell?_setCells_out vb cs (k * 30) w ⟨vb, i * 30 + j, Option.none⟩ (fun _ _ => by
        show i * 30 + j < k * 30 ∨ k * 30 + cs.length ≤ i * 30 + j
        rw [hl]
        rcases Nat.lt_or_gt_of_ne hik with q | q <;> omega)
    exact ⟨dv', (hout 11 (by omega)).trans a, (hout 12 (by omega)).trans b, (hout 15 (by omega)).trans c, d.keeps hkk (fun b hb f => hP (f ▸ hb))⟩

def nowF (F : Int → Bool) (fi : Int) : Int → Bool := fun s => decide (s = fi) || F s
theorem set_now {grp : List Int} {F : Int → Bool} {fi : Int} {k : Nat} (hn : grp.Nodup) (hk : grp[k]? = some fi) : (grp.map fun s => Value.bool (F s)).set k (.bool true) = grp.map fun s => .bool (nowF F fi s) := by
  apply List.ext_getElem?
  intro i
  obtain ⟨hkl, hke⟩ := List.getElem?_eq_some_iff.1 hk
  rw [List.getElem?_set]
  by_cases e : k = i
  · subst e
    simp [hkl, hke, nowF]
  · rw [if_neg e]
    simp only [List.getElem?_map]
    cases hi : grp[i]? with
    | none => rfl
    | some s =>
      simp only [Option.map_some, nowF]
      have : s ≠ fi := fun es => by
        subst es
        obtain ⟨hil, hie⟩ := List.getElem?_eq_some_iff.1 hi
        exact e ((List.getElem_inj hn).1 (hke.trans hie.symm))
      simp [this]

/-- The machine's memory behind an answer that counts. -/
def Placed (h : Hd) (r ab vb : Nat) (P : Nat → Prop) (rc : List Value) (F : Int → Bool) (fi : Int) (k : Nat) (st : Int × Int) (ds : List Int) (f : Nat → Option ((Int × Int) × List Int)) (w w5 : World) : Prop :=
  h.grp[k]? = some fi ∧ F fi = false ∧ Blk w5 r 86 rc ∧ Blk w5 ab 4 (h.grp.map fun s => .bool (nowF F fi s)) ∧
    (∀ g, (∀ i st' ds', g i = some (st', ds') → (i = k ∧ st' = st ∧ ds' = ds) ∨ (i ≠ k ∧ f i = some (st', ds'))) → VAt w5 P vb h.grp.length g) ∧ Keeps (fun b => b = ab ∨ b = vb) w w5

/-- An end, under a name. -/
def Ends (Q : Ending → World → Prop) (e : Ending) (w : World) : Prop := Q e w
set_option maxRecDepth 100000 in
set_option maxHeartbeats 6400000 in
theorem reftake_raw (r : Nat) (h : Hd) (rsz round : Int) (gv bv : Value) (p kd : Int) (t1 t2 err : Int) (ab vb : Nat) (F : Int → Bool) (P : Nat → Prop) (f : Nat → Option ((Int × Int) × List Int)) (kind : Int) (fc : Bool) (fi : Int) (tc : Bool) (ti op rd q0 q1 q2 q3 s1 s2 h1 h2 : Int) (A : Option Addr) (cap : Nat) (zs : List Int) (c0 c1 c2 : Int) (nm : ByteArray) (c3 c4 c5 c6 c7 up : Int) (E : Option Addr) (en ec : Nat) (L : Option Addr) (ln lc : Nat) (D : Option Addr) (dn dc : Nat) (more : Bool) (w : World)
    (hB : Blk w r 86 (rcells h rsz gv round bv p (.slice (some ⟨ab, 0, Option.none⟩) h.grp.length h.grp.length) (.slice (some ⟨vb, 0, Option.none⟩) h.grp.length h.grp.length) t1 t2 err)) (base : Nat) (hG : Row .i64 3 w base gv h.grp) (hgo : ∀ b, gv.ownBlock = some b → b ≠ ab ∧ b ≠ vb) (hl : h.grp.length ≤ 1000) (hnd : h.grp.Nodup)
    (hab : Blk w ab 4 (h.grp.map fun s => .bool (F s))) (hV : VAt w P vb h.grp.length f) (hPa : ¬ P ab) (hPv : ¬ P vb) (nav : ab ≠ vb) (nar : ab ≠ r) (nvr : vb ≠ r) (hdat : Dat w P (.slice A zs.length cap) zs) (hp : (p = 1 ∧ kd = 11) ∨ (p = 2 ∧ kd = 12))
    (Q : Ending → World → Prop)
    (hno : ((decide (kind = kd) && fitsF h round fc tc ti op rd q0 q1 q2 q3) = false ∨ fi ∉ h.grp ∨ F fi = true) → ∀ w', Keeps None w w' → Q (.returned (.slice Option.none 0 0)) w')
    (hless : (decide (kind = kd) && fitsF h round fc tc ti op rd q0 q1 q2 q3) = true → ∀ k w5, Placed h r ab vb P (rcells h rsz gv round bv p (.slice (some ⟨ab, 0, Option.none⟩) h.grp.length h.grp.length) (.slice (some ⟨vb, 0, Option.none⟩) h.grp.length h.grp.length) t1 t2 err) F fi k (s1, s2) zs f w w5 → ((h.grp.filter (nowF F fi)).length : Int) < h.need → Q (.returned (.slice Option.none 0 0)) w5)
    (hend : (decide (kind = kd) && fitsF h round fc tc ti op rd q0 q1 q2 q3) = true → p = 2 → ∀ k w5, Placed h r ab vb P (rcells h rsz gv round bv p (.slice (some ⟨ab, 0, Option.none⟩) h.grp.length h.grp.length) (.slice (some ⟨vb, 0, Option.none⟩) h.grp.length h.grp.length) t1 t2 err) F fi k (s1, s2) zs f w w5 → ¬ ((h.grp.filter (nowF F fi)).length : Int) < h.need →
      ∀ w', Blk w' r 86 (rcells h rsz gv round bv 3 (.slice (some ⟨ab, 0, Option.none⟩) h.grp.length h.grp.length) (.slice (some ⟨vb, 0, Option.none⟩) h.grp.length h.grp.length) t1 t2 0) → Keeps (One r) w5 w' → Q (.returned (.slice Option.none 0 0)) w')
    (hsec : (decide (kind = kd) && fitsF h round fc tc ti op rd q0 q1 q2 q3) = true → p = 1 → ∀ k w5, Placed h r ab vb P (rcells h rsz gv round bv p (.slice (some ⟨ab, 0, Option.none⟩) h.grp.length h.grp.length) (.slice (some ⟨vb, 0, Option.none⟩) h.grp.length h.grp.length) t1 t2 err) F fi k (s1, s2) zs f w w5 → ¬ ((h.grp.filter (nowF F fi)).length : Int) < h.need →
      Calls Try.prog 51 #[.pointer (some ⟨r, 0, Option.none⟩)] w5 fun e w' => ∃ u, e = .returned u ∧ Q (.returned u) w') :
    Calls Try.prog 28 #[.pointer (some ⟨r, 0, Option.none⟩), .agg #[.int .i64 kind, .bool fc, .int .i64 fi, .bool tc, .int .i64 ti, .int .i64 op, .int .i64 rd, .int .i64 q0, .int .i64 q1, .int .i64 q2, .int .i64 q3, .int .i64 s1, .int .i64 s2, .int .i64 h1, .int .i64 h2, .slice A zs.length cap, .int .i64 c0, .int .i64 c1, .int .i64 c2, .string nm, .int .i64 c3, .int .i64 c4, .int .i64 c5, .int .i64 c6, .int .i64 c7, .int .i64 up, .slice E en ec, .slice L ln lc, .slice D dn dc, .bool more]] w (Ends Q) := by
  have hrl := hB.lt
  obtain ⟨xb, hxb⟩ : ∃ x, x = w.heap.size := ⟨_, rfl⟩
  obtain ⟨W, hW⟩ : ∃ W, W = w.alloc (.cells #[.int .i64 kind, .bool fc, .int .i64 fi, .bool tc, .int .i64 ti, .int .i64 op, .int .i64 rd, .int .i64 q0, .int .i64 q1, .int .i64 q2, .int .i64 q3, .int .i64 s1, .int .i64 s2, .int .i64 h1, .int .i64 h2, .slice A zs.length cap, .int .i64 c0, .int .i64 c1, .int .i64 c2, .string nm, .int .i64 c3, .int .i64 c4, .int .i64 c5, .int .i64 c6, .int .i64 c7, .int .i64 up, .slice E en ec, .slice L ln lc, .slice D dn dc, .bool more] 66) := ⟨_, rfl⟩
  have kW : Keeps None w W := by rw [hW]; exact (Keeps.refl None w).alloc _
  have hX : Blk W xb 66 [.int .i64 kind, .bool fc, .int .i64 fi, .bool tc, .int .i64 ti, .int .i64 op, .int .i64 rd, .int .i64 q0, .int .i64 q1, .int .i64 q2, .int .i64 q3, .int .i64 s1, .int .i64 s2, .int .i64 h1, .int .i64 h2, .slice A zs.length cap, .int .i64 c0, .int .i64 c1, .int .i64 c2, .string nm, .int .i64 c3, .int .i64 c4, .int .i64 c5, .int .i64 c6, .int .i64 c7, .int .i64 up, .slice E en ec, .slice L ln lc, .slice D dn dc, .bool more] := by rw [hW, hxb]; exact Blk.new _ _ _
  have hGW := hG.grew kW
  obtain ⟨Gd, hGd⟩ : ∃ G, G = (decide (kind = kd) && fitsF h round fc tc ti op rd q0 q1 q2 q3) := ⟨_, rfl⟩
  have HGD := Lib.hid hGd
  rw [← hGd] at hno hless hend hsec
  have HNO := Lib.hid hno
  have HLESS := Lib.hid hless
  have HEND := Lib.hid hend
  have HSEC := Lib.hid hsec
  have HND := Lib.hid hnd
  have HP := Lib.hid hp
  clear hGd hno hless hend hsec hnd
  go_enter Try.func28, Try.ntmps28
  go_upto_region 1 with (fail)
  rw [← hW, ← hxb]
  have hxge : w.heap.size ≤ xb := by omega
  clear hW hxb
  go_wp2_with (refine wpList_load_msg rfl (.tmp 3) rfl xb rfl [.int .i64 kind, .bool fc, .int .i64 fi, .bool tc, .int .i64 ti, .int .i64 op, .int .i64 rd, .int .i64 q0, .int .i64 q1, .int .i64 q2, .int .i64 q3, .int .i64 s1, .int .i64 s2, .int .i64 h1, .int .i64 h2, .slice A zs.length cap, .int .i64 c0, .int .i64 c1, .int .i64 c2, .string nm, .int .i64 c3, .int .i64 c4, .int .i64 c5, .int .i64 c6, .int .i64 c7, .int .i64 up, .slice E en ec, .slice L ln lc, .slice D dn dc, .bool more] hX rfl ?_)
  refine (refplace7_any r h rsz round gv bv p kd _ t1 t2 err ab F kind fc fi tc ti op rd q0 q1 q2 q3 s1 s2 h1 h2 A cap zs c0 c1 c2 nm c3 c4 c5 c6 c7 up E en ec L ln lc D dn dc more W (hB.grew kW) base hGW hl (hab.grew kW) hp).mono ?_
  rintro e w1 ⟨hk1, k0, rfl, hpl⟩
  rw [← HGD.out] at hpl
  have k01 := kW.trans hk1
  rcases hpl with ⟨rfl, hno⟩ | ⟨hgt, k, rfl, hks, hF⟩
  · have HN := Lib.hid hno
    clear hno
    go_wp2_with fail
    go_ret
    exact HNO.out HN.out _ k01
  · have hkl : k < h.grp.length := (List.getElem?_eq_some_iff.1 hks).1
    have hk0 : ¬ ((k : Int) < 0) := by omega
    subst hgt
    have hB1 := hB.grew k01
    have hX1 := hX.grew hk1
    have m12 := hB1.cell 12 _ rfl
    obtain ⟨b0, ca⟩ : ∃ b0, w1.cell? ⟨ab, k, Option.none⟩ = some b0 := (hab.grew k01).has k (by rw [List.length_map]; exact hkl)
    have fa := (hab.grew k01).free k
    have HKS := Lib.hid hks
    have HFF := Lib.hid hF
    have hset := (hab.grew k01).set k (.bool true)
    rw [set_now HND.out HKS.out] at hset
    have hV1 := hV.grew_ k01
    clear hks hF
    go_upto_region 5 with (fail)
    have k2 : Keeps (One ab) w1 (w1.setCell ⟨ab, k, Option.none⟩ (.bool true)) := (Keeps.refl (One ab) w1).setCell ⟨ab, k, Option.none⟩ _ (fun _ => rfl)
    obtain ⟨W2, hW2⟩ : ∃ W, W = w1.setCell ⟨ab, k, Option.none⟩ (.bool true) := ⟨_, rfl⟩
    rw [← hW2] at k2 hset
    rw [← hW2]
    have hB2 := hB1.keeps k2 (fun f => nar f.symm)
    have habl := hab.lt
    have hX2 := hX1.keeps k2 (fun f => by simp only [One] at f; omega)
    have hV2 := hV1.keeps k2 (fun b hb f => hPa (f ▸ hb)) (fun f => nav f.symm)
    have kd : Keeps None W2 W2.drew := (Keeps.refl None W2).drew
    have m13 := hB2.cell 13 _ rfl
    clear hW2 m12 ca fa hX1 hV1 hB1
    go_wp2_with fail
    refine wp_region_still_tail 7 (by kernel_rfl) (by kernel_rfl) ?_
    simp only [List.take_succ_cons, List.take_zero, List.drop_succ_cons, List.drop_zero]
    still_step
    still_step
    still_step
    still_step
    still_step
    refine still_load_msg rfl (.tmp 3) rfl xb rfl [.int .i64 kind, .bool fc, .int .i64 fi, .bool tc, .int .i64 ti, .int .i64 op, .int .i64 rd, .int .i64 q0, .int .i64 q1, .int .i64 q2, .int .i64 q3, .int .i64 s1, .int .i64 s2, .int .i64 h1, .int .i64 h2, .slice A zs.length cap, .int .i64 c0, .int .i64 c1, .int .i64 c2, .string nm, .int .i64 c3, .int .i64 c4, .int .i64 c5, .int .i64 c6, .int .i64 c7, .int .i64 up, .slice E en ec, .slice L ln lc, .slice D dn dc, .bool more] (hX2.grew kd) rfl ?_
    still_step
    refine wpStill_nil ?_
    change wpList _ _ _ _ _ W2.drew
    try simp only [Act.put, List.setIfInBounds_toArray, List.set_cons_zero, List.set_cons_succ]
    have hB3 := hB2.grew kd
    have hA3 := hset.grew kd
    have hV3 := hV2.grew_ kd
    obtain ⟨W3, hW3⟩ : ∃ W, W = W2.drew := ⟨_, rfl⟩
    rw [← hW3] at kd hB3 hA3 hV3
    rw [← hW3]
    have hth : W3.there vb (k * 30) 30 := fun j hj => by
      have := hV3.there (k * 30 + j) (by omega)
      rwa [Nat.zero_add] at this
    clear hW3 m13 hB2 hset hV2 hX2
    go_upto_region 6 with (refine wpList_store_mid rfl 66 (.tmp 25) (.tmp 24) rfl vb (k * 30) #[.int .i64 kind, .bool fc, .int .i64 fi, .bool tc, .int .i64 ti, .int .i64 op, .int .i64 rd, .int .i64 q0, .int .i64 q1, .int .i64 q2, .int .i64 q3, .int .i64 s1, .int .i64 s2, .int .i64 h1, .int .i64 h2, .slice A zs.length cap, .int .i64 c0, .int .i64 c1, .int .i64 c2, .string nm, .int .i64 c3, .int .i64 c4, .int .i64 c5, .int .i64 c6, .int .i64 c7, .int .i64 up, .slice E en ec, .slice L ln lc, .slice D dn dc, .bool more] rfl rfl hth (sizeMsg rfl) (by simp [Value.oneCell']) ?_)
    have k4 : Keeps (One vb) W3 (W3.setCells vb (k * 30) [.int .i64 kind, .bool fc, .int .i64 fi, .bool tc, .int .i64 ti, .int .i64 op, .int .i64 rd, .int .i64 q0, .int .i64 q1, .int .i64 q2, .int .i64 q3, .int .i64 s1, .int .i64 s2, .int .i64 h1, .int .i64 h2, .slice A zs.length cap, .int .i64 c0, .int .i64 c1, .int .i64 c2, .string nm, .int .i64 c3, .int .i64 c4, .int .i64 c5, .int .i64 c6, .int .i64 c7, .int .i64 up, .slice E en ec, .slice L ln lc, .slice D dn dc, .bool more]) := (Keeps.refl (One vb) W3).setCells vb _ _ (fun _ => rfl)
    have k03 : Keeps (fun b => b = ab ∨ b = vb) w W3 := (k01.of_none.trans (k2.mono (fun b _ e => .inl e))).trans kd.of_none
    have hdat3 := hdat.keeps k03 (fun b hb f => f.elim (fun f => hPa (f ▸ hb)) (fun f => hPv (f ▸ hb)))
    have hPut := fun g hg => hV3.put hPv k hkl [.int .i64 kind, .bool fc, .int .i64 fi, .bool tc, .int .i64 ti, .int .i64 op, .int .i64 rd, .int .i64 q0, .int .i64 q1, .int .i64 q2, .int .i64 q3, .int .i64 s1, .int .i64 s2, .int .i64 h1, .int .i64 h2, .slice A zs.length cap, .int .i64 c0, .int .i64 c1, .int .i64 c2, .string nm, .int .i64 c3, .int .i64 c4, .int .i64 c5, .int .i64 c6, .int .i64 c7, .int .i64 up, .slice E en ec, .slice L ln lc, .slice D dn dc, .bool more] rfl (s1, s2) zs (.slice A zs.length cap) rfl rfl rfl hdat3 g hg
    obtain ⟨W4, hW4⟩ : ∃ W, W = W3.setCells vb (k * 30) [.int .i64 kind, .bool fc, .int .i64 fi, .bool tc, .int .i64 ti, .int .i64 op, .int .i64 rd, .int .i64 q0, .int .i64 q1, .int .i64 q2, .int .i64 q3, .int .i64 s1, .int .i64 s2, .int .i64 h1, .int .i64 h2, .slice A zs.length cap, .int .i64 c0, .int .i64 c1, .int .i64 c2, .string nm, .int .i64 c3, .int .i64 c4, .int .i64 c5, .int .i64 c6, .int .i64 c7, .int .i64 up, .slice E en ec, .slice L ln lc, .slice D dn dc, .bool more] := ⟨_, rfl⟩
    rw [← hW4] at k4 hPut
    have k04 : Keeps (fun b => b = ab ∨ b = vb) w W4 := k03.trans (k4.mono (fun b _ e => .inr e))
    have hB4 := hB3.keeps k4 (fun f => nvr f.symm)
    have hA4 := hA3.keeps k4 (fun f => nav f)
    have hPL : Placed h r ab vb P (rcells h rsz gv round bv p (.slice (some ⟨ab, 0, Option.none⟩) h.grp.length h.grp.length) (.slice (some ⟨vb, 0, Option.none⟩) h.grp.length h.grp.length) t1 t2 err) F fi k (s1, s2) zs f w W4 := ⟨HKS.out, HFF.out, hB4, hA4, hPut, k04⟩
    have hG4 := hG.keeps k04 (fun b e f => f.elim (hgo b e).1 (hgo b e).2)
    rw [show W3.setCells vb (k * 30) (#[.int .i64 kind, .bool fc, .int .i64 fi, .bool tc, .int .i64 ti, .int .i64 op, .int .i64 rd, .int .i64 q0, .int .i64 q1, .int .i64 q2, .int .i64 q3, .int .i64 s1, .int .i64 s2, .int .i64 h1, .int .i64 h2, .slice A zs.length cap, .int .i64 c0, .int .i64 c1, .int .i64 c2, .string nm, .int .i64 c3, .int .i64 c4, .int .i64 c5, .int .i64 c6, .int .i64 c7, .int .i64 up, .slice E en ec, .slice L ln lc, .slice D dn dc, .bool more] : Array Value).toList = W3.setCells vb (k * 30) [.int .i64 kind, .bool fc, .int .i64 fi, .bool tc, .int .i64 ti, .int .i64 op, .int .i64 rd, .int .i64 q0, .int .i64 q1, .int .i64 q2, .int .i64 q3, .int .i64 s1, .int .i64 s2, .int .i64 h1, .int .i64 h2, .slice A zs.length cap, .int .i64 c0, .int .i64 c1, .int .i64 c2, .string nm, .int .i64 c3, .int .i64 c4, .int .i64 c5, .int .i64 c6, .int .i64 c7, .int .i64 up, .slice E en ec, .slice L ln lc, .slice D dn dc, .bool more] from rfl, ← hW4]
    have HPL := Lib.hid hPL
    clear hW4 hPut hdat3 k03 k04 k4 hB3 hA3 hV3 hth kd k2 hPL HKS HFF
    obtain ⟨Ag, cg, rfl⟩ := hG.slice
    have m7 := hB4.cell 7 _ rfl
    have m12 := hB4.cell 12 _ rfl
    go_wp2_with fail
    go_loopw [6, 7] (fun n i wr => ∃ (j c : Nat), j ≤ h.grp.length ∧ i = .int .i64 j ∧ n = .int .i64 c ∧ Hid (c = ((h.grp.take j).filter (nowF F fi)).length) ∧ c ≤ j ∧ W4 = wr) (fun _ i _ => h.grp.length - (intOf i).toNat)
    case atStart => exact ⟨0, 0, Nat.zero_le _, rfl, rfl, Lib.hid (by simp), Nat.zero_le _, rfl⟩
    case round =>
      obtain ⟨j, c, hj, rfl, rfl, hc, hcj, rfl⟩ := hrel
      by_cases hjl : j < h.grp.length
      · obtain ⟨x, hx⟩ : ∃ x, h.grp[j]? = some x := ⟨_, List.getElem?_eq_getElem hjl⟩
        have HT := Lib.hid (take_succ_of hx)
        have ca : W4.cell? ⟨ab, j, Option.none⟩ = some (.bool (nowF F fi x)) := hA4.cell j _ (by rw [List.getElem?_map, hx]; rfl)
        obtain ⟨b, hb⟩ : ∃ b, b = nowF F fi x := ⟨_, rfl⟩
        rw [← hb] at ca
        cases b with
        | true =>
          have hc2 : Hid (c + 1 = ((h.grp.take (j + 1)).filter (nowF F fi)).length) := Lib.hid (by rw [HT.out, List.filter_append, List.length_append, ← hc.out]; simp [← hb])
          clear hb hx
          go_wp2_with fail
          go_roundw
          case rel => exact ⟨j + 1, c + 1, by omega, by go_num, by go_num, hc2, by omega, by first | rfl | trivial⟩
          case measure => simp [intOf]; omega
        | false =>
          have hc2 : Hid (c = ((h.grp.take (j + 1)).filter (nowF F fi)).length) := Lib.hid (by rw [HT.out, List.filter_append, List.length_append, ← hc.out]; simp [← hb])
          clear hb hx
          go_wp2_with fail
          go_roundw
          case rel => exact ⟨j + 1, c, by omega, by go_num, rfl, hc2, by omega, by first | rfl | trivial⟩
          case measure => simp [intOf]; omega
      · obtain rfl : j = h.grp.length := by omega
        have hcc := hc.out
        rw [List.take_of_length_le (Nat.le_refl _)] at hcc
        have HCC := Lib.hid hcc
        clear hcc hc
        go_wp2_with fail
        refine (refneed_any r h rsz round _ bv p _ _ t1 t2 err W4 hB4 base hG4 hl).mono ?_
        rintro e w6 ⟨rfl, hw6⟩
        rw [hw6]
        clear hw6
        by_cases hlt : (c : Int) < h.need
        · have HLT := Lib.hid hlt
          go_wp2_with fail
          go_ret
          exact HLESS.out (by first | rfl | trivial) k _ HPL.out (by rw [← HCC.out]; exact HLT.out)
        · have HLT := Lib.hid hlt
          have m11 := hB4.cell 11 _ rfl
          have hpp := HP.out
          clear HP
          by_cases hp2 : p = 2
          · obtain ⟨ta, tb⟩ := test_eq hp2
            have HP2 := Lib.hid hp2
            clear hp2 hpp
            go_wp2_with fail
            refine (refend_any r h rsz round _ bv p _ _ t1 t2 err 0 W4 hB4).mono ?_
            rintro e w7 ⟨rfl, hB7, hk7⟩
            go_wp2_with fail
            go_ret
            exact HEND.out (by first | rfl | trivial) HP2.out k W4 HPL.out (by rw [← HCC.out]; exact HLT.out) _ hB7 hk7
          · obtain ⟨ta, tb⟩ := test_ne hp2
            have HP1 : Hid (p = 1) := Lib.hid (hpp.elim (fun e => e.1) (fun e => absurd e.1 hp2))
            clear hp2 hpp
            go_wp2_with fail
            refine (HSEC.out (by first | rfl | trivial) HP1.out k W4 HPL.out (by rw [← HCC.out]; exact HLT.out)).mono ?_
            rintro e w7 ⟨u, rfl, hq⟩
            have HQ := Lib.hid hq
            clear hq
            go_wp2_with fail
            go_ret
            exact HQ.out

set_option maxRecDepth 100000 in
set_option maxHeartbeats 6400000 in
theorem reftake_not (r : Nat) (h : Hd) (rsz round : Int) (gv bv : Value) (p : Int) (av vv : Value) (t1 t2 err : Int) (kind : Int) (fc : Bool) (fi : Int) (tc : Bool) (ti op rd q0 q1 q2 q3 s1 s2 h1 h2 : Int) (A : Option Addr) (cap : Nat) (zs : List Int) (c0 c1 c2 : Int) (nm : ByteArray) (c3 c4 c5 c6 c7 up : Int) (E : Option Addr) (en ec : Nat) (L : Option Addr) (ln lc : Nat) (D : Option Addr) (dn dc : Nat) (more : Bool) (w : World)
    (hB : Blk w r 86 (rcells h rsz gv round bv p av vv t1 t2 err)) (hp : p = 0 ∨ p = 3) :
    Calls Try.prog 28 #[.pointer (some ⟨r, 0, Option.none⟩), .agg #[.int .i64 kind, .bool fc, .int .i64 fi, .bool tc, .int .i64 ti, .int .i64 op, .int .i64 rd, .int .i64 q0, .int .i64 q1, .int .i64 q2, .int .i64 q3, .int .i64 s1, .int .i64 s2, .int .i64 h1, .int .i64 h2, .slice A zs.length cap, .int .i64 c0, .int .i64 c1, .int .i64 c2, .string nm, .int .i64 c3, .int .i64 c4, .int .i64 c5, .int .i64 c6, .int .i64 c7, .int .i64 up, .slice E en ec, .slice L ln lc, .slice D dn dc, .bool more]] w fun e w' => e = .returned (.slice Option.none 0 0) ∧ Keeps None w w' := by
  obtain ⟨xb, hxb⟩ : ∃ x, x = w.heap.size := ⟨_, rfl⟩
  obtain ⟨W, hW⟩ : ∃ W, W = w.alloc (.cells #[.int .i64 kind, .bool fc, .int .i64 fi, .bool tc, .int .i64 ti, .int .i64 op, .int .i64 rd, .int .i64 q0, .int .i64 q1, .int .i64 q2, .int .i64 q3, .int .i64 s1, .int .i64 s2, .int .i64 h1, .int .i64 h2, .slice A zs.length cap, .int .i64 c0, .int .i64 c1, .int .i64 c2, .string nm, .int .i64 c3, .int .i64 c4, .int .i64 c5, .int .i64 c6, .int .i64 c7, .int .i64 up, .slice E en ec, .slice L ln lc, .slice D dn dc, .bool more] 66) := ⟨_, rfl⟩
  have kW : Keeps None w W := by rw [hW]; exact (Keeps.refl None w).alloc _
  have hX : Blk W xb 66 [.int .i64 kind, .bool fc, .int .i64 fi, .bool tc, .int .i64 ti, .int .i64 op, .int .i64 rd, .int .i64 q0, .int .i64 q1, .int .i64 q2, .int .i64 q3, .int .i64 s1, .int .i64 s2, .int .i64 h1, .int .i64 h2, .slice A zs.length cap, .int .i64 c0, .int .i64 c1, .int .i64 c2, .string nm, .int .i64 c3, .int .i64 c4, .int .i64 c5, .int .i64 c6, .int .i64 c7, .int .i64 up, .slice E en ec, .slice L ln lc, .slice D dn dc, .bool more] := by rw [hW, hxb]; exact Blk.new _ _ _
  go_enter Try.func28, Try.ntmps28
  go_upto_region 1 with (fail)
  rw [← hW, ← hxb]
  clear hW hxb
  go_wp2_with (refine wpList_load_msg rfl (.tmp 3) rfl xb rfl [.int .i64 kind, .bool fc, .int .i64 fi, .bool tc, .int .i64 ti, .int .i64 op, .int .i64 rd, .int .i64 q0, .int .i64 q1, .int .i64 q2, .int .i64 q3, .int .i64 s1, .int .i64 s2, .int .i64 h1, .int .i64 h2, .slice A zs.length cap, .int .i64 c0, .int .i64 c1, .int .i64 c2, .string nm, .int .i64 c3, .int .i64 c4, .int .i64 c5, .int .i64 c6, .int .i64 c7, .int .i64 up, .slice E en ec, .slice L ln lc, .slice D dn dc, .bool more] hX rfl ?_)
  refine (refplace_not r h rsz round gv bv p av vv t1 t2 err kind fc fi tc ti op rd q0 q1 q2 q3 s1 s2 h1 h2 A cap zs c0 c1 c2 nm c3 c4 c5 c6 c7 up E en ec L ln lc D dn dc more W (hB.grew kW) hp).mono ?_
  rintro e w1 ⟨rfl, hk1⟩
  go_wp2_with fail
  go_ret
  exact ⟨rfl, kW.trans hk1⟩
end Go.Proofs.Ytcihfjfbcfgidaa
