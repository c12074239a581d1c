/- The document's machine: Take, by the program's words. -/
import Derived.Test.YtcihfjfbcfgidaaRefM7
namespace Go.Proofs.Ytcihfjfbcfgidaa
open Go.RowKit Go.Maps
set_option linter.unusedVariables false

/-! ### In plain words -/
theorem look_more {qs : List Ans} {q : Ans} (h : lookA qs q.s = Option.none) (s : Int) : lookA (qs ++ [q]) s = if s = q.s then some q else lookA qs s := by
  unfold lookA at *
  rw [List.find?_append]
  by_cases e : s = q.s
  · subst e
    rw [h, if_pos rfl]
    simp
  · rw [if_neg e]
    have : (q.s == s) = false := by simpa using (Ne.symm e)
    simp [this]
theorem nodup_nd {l : List Int} (h : uniqF l = l) : l.Nodup := by rw [← h]; exact uniqF_nodup l
theorem now_ask {qs : List Ans} {q : Ans} (h : lookA qs q.s = Option.none) (s : Int) : nowF (fun s => (lookA qs s).isSome) q.s s = (lookA (qs ++ [q]) s).isSome := by
  rw [look_more h]
  unfold nowF
  by_cases e : s = q.s <;> simp [e]
theorem ask_no {h : Hd} {round : Int} {qs : List Ans} {kind fi : Int} {st : Int × Int} {ds : List Int} {fits : Bool} (hc : (decide (kind = 11) && fits) = false ∨ fi ∉ h.grp ∨ (lookA qs fi).isSome = true) : takeF h round (.asking qs) kind fi st ds fits = (round, .asking qs, .no) := by
  unfold takeF
  cases fits with
  | false => rfl
  | true =>
    rw [if_pos rfl]
    show askF h round qs kind fi st ds = _
    unfold askF
    rw [if_pos]
    rcases hc with e | e | e
    · left; simpa using e
    · right; unfold takesA; simp [e]
    · right; unfold takesA; simp [e]
theorem ask_yes {h : Hd} {round : Int} {qs : List Ans} {kind fi : Int} {st : Int × Int} {ds : List Int} {fits : Bool} (hk : (decide (kind = 11) && fits) = true) (hm : fi ∈ h.grp) (hl : (lookA qs fi).isSome = false) (hn : (qs.length : Int) < h.need) :
    takeF h round (.asking qs) kind fi st ds fits = if ¬ (h.need ≤ (qs.length : Int) + 1) then (round, .asking (qs ++ [⟨fi, st, ds⟩]), .no) else secondF h round (ansA h.grp (qs ++ [⟨fi, st, ds⟩])) := by
  simp only [Bool.and_eq_true, decide_eq_true_eq] at hk
  unfold takeF
  rw [if_pos hk.2]
  show askF h round qs kind fi st ds = _
  unfold askF
  rw [if_neg]
  rintro (e | e)
  · exact e hk.1
  · unfold takesA at e
    have hl' : lookA qs fi = Option.none := by simpa using hl
    simp [hl', hm] at e
    omega
theorem lay_no {h : Hd} {round : Int} {ss : List Int} {tag : Int × Int} {d : List Int} {kind fi : Int} {st : Int × Int} {ds : List Int} {fits : Bool} (hc : (decide (kind = 12) && fits) = false ∨ fi ∉ h.grp ∨ decide (fi ∈ ss) = true) : takeF h round (.laying ss tag d) kind fi st ds fits = (round, .laying ss tag d, .no) := by
  unfold takeF
  cases fits with
  | false => rfl
  | true =>
    rw [if_pos rfl]
    show layF h round ss tag d kind fi = _
    unfold layF
    rw [if_pos]
    rcases hc with e | e | e
    · left; simpa using e
    · right; unfold takesS; simp [e]
    · right; unfold takesS; simp at e; simp [e]
theorem lay_yes {h : Hd} {round : Int} {ss : List Int} {tag : Int × Int} {d : List Int} {kind fi : Int} {st : Int × Int} {ds : List Int} {fits : Bool} (hk : (decide (kind = 12) && fits) = true) (hm : fi ∈ h.grp) (hl : decide (fi ∈ ss) = false) (hn : (ss.length : Int) < h.need) :
    takeF h round (.laying ss tag d) kind fi st ds fits = if ¬ (h.need ≤ (ss.length : Int) + 1) then (round, .laying (ss ++ [fi]) tag d, .no) else (round, .ended 0 tag (if h.wr then [] else d), .no) := by
  simp only [Bool.and_eq_true, decide_eq_true_eq] at hk
  unfold takeF
  rw [if_pos hk.2]
  show layF h round ss tag d kind fi = _
  unfold layF
  rw [if_neg]
  rintro (e | e)
  · exact e hk.1
  · unfold takesS at e
    have hl' : fi ∉ ss := by simpa using hl
    simp [hl', hm] at e
    omega
theorem take_other {h : Hd} {round : Int} {ph : Ph} {kind fi : Int} {st : Int × Int} {ds : List Int} {fits : Bool} (hp : ph = .fresh ∨ ∃ e t d, ph = .ended e t d) : takeF h round ph kind fi st ds fits = (round, ph, .no) := by
  unfold takeF
  rcases hp with rfl | ⟨e, t, d, rfl⟩ <;> cases fits <;> rfl
theorem Qok.more {h : Hd} {qs : List Ans} {q : Ans} (hq : Qok h qs) (hm : q.s ∈ h.grp) (hl : lookA qs q.s = Option.none) : ((qs ++ [q]).map (·.s)).Nodup ∧ ∀ x ∈ qs ++ [q], x.s ∈ h.grp := by
  have hno : q.s ∉ qs.map (·.s) := fun e => by
    have := lookA_mem (qs := qs) (s := q.s)
    rw [hl] at this
    simp only [Option.isSome_none] at this
    exact absurd e (of_decide_eq_false this.symm)
  refine ⟨?_, fun x hx => ?_⟩
  · rw [List.map_append, List.nodup_append]
    refine ⟨hq.1, by simp, fun a ha b hb => ?_⟩
    simp only [List.map_cons, List.map_nil, List.mem_singleton] at hb
    rw [hb]
    exact fun e => hno (e ▸ ha)
  · rcases List.mem_append.1 hx with k | k
    · exact hq.2.1 x k
    · rw [List.mem_singleton.1 k]; exact hm
theorem count_ask {h : Hd} {qs : List Ans} {q : Ans} (hnd : h.grp.Nodup) (hq : Qok h qs) (hm : q.s ∈ h.grp) (hl : lookA qs q.s = Option.none) : (h.grp.filter (nowF (fun s => (lookA qs s).isSome) q.s)).length = qs.length + 1 := by
  have h1 : (nowF (fun s => (lookA qs s).isSome) q.s) = fun s => decide (s ∈ (qs ++ [q]).map (·.s)) := by
    funext s
    rw [now_ask hl, lookA_mem]
  obtain ⟨n1, n2⟩ := hq.more hm hl
  rw [h1, count_in _ _ hnd n1 (fun s hs => by obtain ⟨x, hx, rfl⟩ := List.mem_map.1 hs; exact n2 x hx)]
  simp
theorem Sok.more {h : Hd} {ss : List Int} {s : Int} (hq : Sok h ss) (hm : s ∈ h.grp) (hl : s ∉ ss) : (ss ++ [s]).Nodup ∧ ∀ x ∈ ss ++ [s], x ∈ h.grp := by
  refine ⟨?_, fun x hx => ?_⟩
  · rw [List.nodup_append]
    refine ⟨hq.1, by simp, fun a ha b hb => ?_⟩
    rw [List.mem_singleton.1 hb]
    exact fun e => hl (e ▸ ha)
  · rcases List.mem_append.1 hx with k | k
    · exact hq.2.1 x k
    · rw [List.mem_singleton.1 k]; exact hm
theorem now_lay (ss : List Int) (fi s : Int) : nowF (fun s => decide (s ∈ ss)) fi s = decide (s ∈ ss ++ [fi]) := by
  unfold nowF
  simp [List.mem_append, or_comm]
theorem count_lay {h : Hd} {ss : List Int} {s : Int} (hnd : h.grp.Nodup) (hq : Sok h ss) (hm : s ∈ h.grp) (hl : s ∉ ss) : (h.grp.filter (nowF (fun s => decide (s ∈ ss)) s)).length = ss.length + 1 := by
  have h1 : (nowF (fun s => decide (s ∈ ss)) s) = fun x => decide (x ∈ ss ++ [s]) := by
    funext x
    exact now_lay ss s x
  obtain ⟨n1, n2⟩ := hq.more hm hl
  rw [h1, count_in _ _ hnd n1 n2]
  simp
theorem ans_put {h : Hd} {qs : List Ans} {q : Ans} {k : Nat} (hnd : h.grp.Nodup) (hk : h.grp[k]? = some q.s) (hl : lookA qs q.s = Option.none) : ∀ i st' ds', ansF h (qs ++ [q]) i = some (st', ds') → (i = k ∧ st' = q.st ∧ ds' = q.ds) ∨ (i ≠ k ∧ ansF h qs i = some (st', ds')) := by
  intro i st' ds' e
  unfold ansF at *
  cases hi : h.grp[i]? with
  | none => rw [hi] at e; simp at e
  | some s =>
    rw [hi] at e
    simp only [Option.bind_some] at e ⊢
    rw [look_more hl] at e
    by_cases es : s = q.s
    · subst es
      rw [if_pos rfl] at e
      simp only [Option.map_some, Option.some.injEq, Prod.mk.injEq] at e
      have : i = k := by
        obtain ⟨hil, hie⟩ := List.getElem?_eq_some_iff.1 hi
        obtain ⟨hkl, hke⟩ := List.getElem?_eq_some_iff.1 hk
        exact (List.getElem_inj hnd).1 (hie.trans hke.symm)
      exact .inl ⟨this, e.1.symm, e.2.symm⟩
    · rw [if_neg es] at e
      refine .inr ⟨fun ek => ?_, e⟩
      subst ek
      rw [hi] at hk
      exact es (Option.some.inj hk)

theorem RStep.from {w W : World} {base : Nat} {Z Wr : Nat → Prop} {r : Nat} {h : Hd} {round : Int} {ph : Ph} {out : OutS} {e : Ending} {w' : World} (hs : RStep W base Z Wr r h round ph out e w') (hk : Keeps Wr w W) : RStep w base Z Wr r h round ph out e w' := by
  obtain ⟨Z', W', u, h1, h2, h3, h4, h5, h6⟩ := hs
  have := hk.size
  exact ⟨Z', W', u, h1, h2, h3, h4, fun b e => (h5 b e).imp id (fun k => by omega), hk.trans h6⟩

set_option maxRecDepth 100000 in
set_option maxHeartbeats 1600000 in
theorem reftake7_any (base r : Nat) (Z W : Nat → Prop) (h : Hd) (round : Int) (ph : Ph) (kind : Int) (fc : Bool) (fi : Int) (tc : Bool) (ti op rd q0 q1 q2 q3 s1 s2 h1 h2 : Int) (A : Option Addr) (cap : Nat) (zs : List Int) (c0 c1 c2 : Int) (nm : ByteArray) (c3 c4 c5 c6 c7 up : Int) (E : Option Addr) (en ec : Nat) (L : Option Addr) (ln lc : Nat) (D : Option Addr) (dn dc : Nat) (more : Bool) (w : World) (hM : RMach w base Z W r h round ph) (hZ : Nums .u8 w A zs) (hz : zs.length ≤ MB) (hA : ∀ b o, A = some ⟨b, o, Option.none⟩ → 0 < zs.length → b < base) :
    Calls Try.prog 28 #[.pointer (some ⟨r, 0, Option.none⟩), .agg #[.int .i64 kind, .bool fc, .int .i64 fi, .bool tc, .int .i64 ti, .int .i64 op, .int .i64 rd, .int .i64 q0, .int .i64 q1, .int .i64 q2, .int .i64 q3, .int .i64 s1, .int .i64 s2, .int .i64 h1, .int .i64 h2, .slice A zs.length cap, .int .i64 c0, .int .i64 c1, .int .i64 c2, .string nm, .int .i64 c3, .int .i64 c4, .int .i64 c5, .int .i64 c6, .int .i64 c7, .int .i64 up, .slice E en ec, .slice L ln lc, .slice D dn dc, .bool more]] w (RStep w base Z W r h (takeF h round ph kind fi (s1, s2) zs (fitsF h round fc tc ti op rd q0 q1 q2 q3)).1 (takeF h round ph kind fi (s1, s2) zs (fitsF h round fc tc ti op rd q0 q1 q2 q3)).2.1 (takeF h round ph kind fi (s1, s2) zs (fitsF h round fc tc ti op rd q0 q1 q2 q3)).2.2) := by
  obtain ⟨gv, rsz, bv, p, av, vv, t1, t2, err, hB, hG, hgz, hrs, hAt, hbv, hav, hvv⟩ := hM.out
  have hnd : h.grp.Nodup := nodup_nd hM.ok.nd
  have hdat : Dat w (Rd base Z W) (.slice A zs.length cap) zs := ⟨A, cap, rfl, hZ, fun b o e h0 => ⟨.inl (hA b o e h0), fun f => by have := (hM.Z b (hM.W b f)).1; have := hA b o e h0; omega⟩, hz⟩
  have hback : ∀ w5, Keeps W w w5 → ∀ b, Z b → base ≤ b ∧ b < w5.heap.size := fun w5 hk b e => ⟨(hM.Z b e).1, Nat.lt_of_lt_of_le (hM.Z b e).2 hk.size⟩
  have hslice : ∀ w5, Keeps W w w5 → Row .i64 3 w5 base gv h.grp := fun w5 hk => hG.keeps hk (fun b e f => (hgz b e).2 f)
  cases ph with
  | fresh =>
    rw [take_other (.inl rfl)]
    obtain ⟨rfl, -⟩ := hAt
    exact (reftake_not r h rsz round gv bv 0 av vv t1 t2 err kind fc fi tc ti op rd q0 q1 q2 q3 s1 s2 h1 h2 A cap zs c0 c1 c2 nm c3 c4 c5 c6 c7 up E en ec L ln lc D dn dc more w hB (.inl rfl)).mono fun e w' ⟨h1, h2⟩ => by rw [h1]; exact hM.same h2 rfl
  | ended er tag d =>
    rw [take_other (.inr ⟨er, tag, d, rfl⟩)]
    obtain ⟨rfl, -⟩ := hAt
    exact (reftake_not r h rsz round gv bv 3 av vv t1 t2 err kind fc fi tc ti op rd q0 q1 q2 q3 s1 s2 h1 h2 A cap zs c0 c1 c2 nm c3 c4 c5 c6 c7 up E en ec L ln lc D dn dc more w hB (.inr rfl)).mono fun e w' ⟨h1, h2⟩ => by rw [h1]; exact hM.same h2 rfl
  | asking qs =>
    obtain ⟨rfl, ⟨ab, vb, rfl, rfl, hab, hvb, nav, nar, nvr, hA1, hV⟩, hblk, hQ, hr1, hr2⟩ := hAt
    have kS : ∀ w5, Keeps (fun b => b = ab ∨ b = vb) w w5 → Keeps W w w5 := fun w5 hk => hk.mono (fun b _ e => e.elim (fun e => e ▸ hab) (fun e => e ▸ hvb))
    refine reftake_raw r h rsz round gv bv 1 11 t1 t2 err ab vb (fun s => (lookA qs s).isSome) (Rd base Z W) (ansF h qs) kind fc fi tc ti op rd q0 q1 q2 q3 s1 s2 h1 h2 A cap zs c0 c1 c2 nm c3 c4 c5 c6 c7 up E en ec L ln lc D dn dc more w hB base hG (fun b e => ⟨fun f => (hgz b e).2 (f ▸ hab), fun f => (hgz b e).2 (f ▸ hvb)⟩) hM.ok.grp hnd hA1 hV (fun f => f.2 hab) (fun f => f.2 hvb) nav nar nvr hdat (.inl ⟨rfl, rfl⟩) (RStep w base Z W r h (takeF h round (.asking qs) kind fi (s1, s2) zs (fitsF h round fc tc ti op rd q0 q1 q2 q3)).1 (takeF h round (.asking qs) kind fi (s1, s2) zs (fitsF h round fc tc ti op rd q0 q1 q2 q3)).2.1 (takeF h round (.asking qs) kind fi (s1, s2) zs (fitsF h round fc tc ti op rd q0 q1 q2 q3)).2.2) ?_ ?_ ?_ ?_
    · intro hc w' hk
      rw [ask_no hc]
      exact hM.same hk rfl
    · rintro hc k w5 ⟨p1, p2, p3, p4, p5, p6⟩ hn
      have hm := List.mem_of_getElem? p1
      have hl : lookA qs fi = Option.none := by simpa using p2
      rw [count_ask (q := ⟨fi, (s1, s2), zs⟩) hnd hQ hm hl] at hn
      rw [ask_yes hc hm p2 hQ.2.2, if_pos (by omega)]
      have k5 := kS w5 p6
      refine ⟨Z, W, _, rfl, ⟨⟨gv, rsz, bv, 1, _, _, t1, t2, err, p3, hslice w5 k5, hgz, hrs, ⟨rfl, ⟨ab, vb, rfl, rfl, hab, hvb, nav, nar, nvr, ?_, p5 _ (ans_put (q := ⟨fi, (s1, s2), zs⟩) hnd p1 hl)⟩, fun e => (hblk e).keeps k5 (fun b hb f => hb.2 f), ⟨(hQ.more (q := ⟨fi, (s1, s2), zs⟩) hm hl).1, (hQ.more (q := ⟨fi, (s1, s2), zs⟩) hm hl).2, by simpa using hn⟩, hr1, hr2⟩, hbv, hav, hvv⟩, hM.r, hM.W, hback w5 k5, hM.ok⟩, rfl, fun _ e => e, fun _ e => .inl e, k5⟩
      rw [show (h.grp.map fun s => Value.bool (lookA (qs ++ [⟨fi, (s1, s2), zs⟩]) s).isSome) = h.grp.map fun s => .bool (nowF (fun s => (lookA qs s).isSome) fi s) from List.map_congr_left (fun s _ => by rw [now_ask (q := ⟨fi, (s1, s2), zs⟩) hl])]
      exact p4
    · intro _ h2
      exact absurd h2 (by decide)
    · rintro hc - k w5 ⟨p1, p2, p3, p4, p5, p6⟩ hn
      have hm := List.mem_of_getElem? p1
      have hl : lookA qs fi = Option.none := by simpa using p2
      rw [count_ask (q := ⟨fi, (s1, s2), zs⟩) hnd hQ hm hl] at hn
      rw [ask_yes hc hm p2 hQ.2.2, if_neg (by omega)]
      have k5 := kS w5 p6
      obtain ⟨B, bn, bc, rfl⟩ := hbv
      have hne : ansA h.grp (qs ++ [⟨fi, (s1, s2), zs⟩]) ≠ [] := fun e => by
        have : (⟨fi, (s1, s2), zs⟩ : Ans) ∈ ansA h.grp (qs ++ [⟨fi, (s1, s2), zs⟩]) := by
          unfold ansA
          rw [List.mem_filterMap]
          exact ⟨fi, hm, by rw [look_more (q := ⟨fi, (s1, s2), zs⟩) hl]; simp⟩
        rw [e] at this
        simp at this
      refine (refsecond_any base r Z W h rsz round gv B bn bc _ _ t1 t2 err (qs ++ [⟨fi, (s1, s2), zs⟩]) w5 p3 (hslice w5 k5) hgz hrs ⟨ab, vb, rfl, rfl, hab, hvb, nav, nar, nvr, ?_, p5 _ (ans_put (q := ⟨fi, (s1, s2), zs⟩) hnd p1 hl)⟩ (fun e => (hblk e).keeps k5 (fun b hb f => hb.2 f)) hM.r hM.W (hback w5 k5) hM.ok hne hr1 hr2).mono fun e w' hs => ?_
      · rw [show (h.grp.map fun s => Value.bool (lookA (qs ++ [⟨fi, (s1, s2), zs⟩]) s).isSome) = h.grp.map fun s => .bool (nowF (fun s => (lookA qs s).isSome) fi s) from List.map_congr_left (fun s _ => by rw [now_ask (q := ⟨fi, (s1, s2), zs⟩) hl])]
        exact p4
      · have hs2 := hs.from k5
        obtain ⟨Z', W', u, rfl, h2⟩ := hs
        exact ⟨u, rfl, hs2⟩
  | laying ss tag d =>
    obtain ⟨rfl, rfl, rfl, ⟨ab, vb, rfl, rfl, hab, hvb, nav, nar, nvr, hA1, hV⟩, hblk, hQ, hr1, hr2⟩ := hAt
    have kS : ∀ w5, Keeps (fun b => b = ab ∨ b = vb) w w5 → Keeps W w w5 := fun w5 hk => hk.mono (fun b _ e => e.elim (fun e => e ▸ hab) (fun e => e ▸ hvb))
    refine reftake_raw r h rsz round gv bv 2 12 tag.1 tag.2 err ab vb (fun s => decide (s ∈ ss)) (Rd base Z W) (fun _ => Option.none) kind fc fi tc ti op rd q0 q1 q2 q3 s1 s2 h1 h2 A cap zs c0 c1 c2 nm c3 c4 c5 c6 c7 up E en ec L ln lc D dn dc more w hB base hG (fun b e => ⟨fun f => (hgz b e).2 (f ▸ hab), fun f => (hgz b e).2 (f ▸ hvb)⟩) hM.ok.grp hnd hA1 hV (fun f => f.2 hab) (fun f => f.2 hvb) nav nar nvr hdat (.inr ⟨rfl, rfl⟩) (RStep w base Z W r h (takeF h round (.laying ss tag d) kind fi (s1, s2) zs (fitsF h round fc tc ti op rd q0 q1 q2 q3)).1 (takeF h round (.laying ss tag d) kind fi (s1, s2) zs (fitsF h round fc tc ti op rd q0 q1 q2 q3)).2.1 (takeF h round (.laying ss tag d) kind fi (s1, s2) zs (fitsF h round fc tc ti op rd q0 q1 q2 q3)).2.2) ?_ ?_ ?_ ?_
    · intro hc w' hk
      rw [lay_no hc]
      exact hM.same hk rfl
    · rintro hc k w5 ⟨p1, p2, p3, p4, p5, p6⟩ hn
      have hm := List.mem_of_getElem? p1
      have hl : fi ∉ ss := by simpa using p2
      rw [count_lay hnd hQ hm hl] at hn
      rw [lay_yes hc hm p2 hQ.2.2, if_pos (by omega)]
      have k5 := kS w5 p6
      refine ⟨Z, W, _, rfl, ⟨⟨gv, rsz, bv, 2, _, _, tag.1, tag.2, err, p3, hslice w5 k5, hgz, hrs, ⟨rfl, rfl, rfl, ⟨ab, vb, rfl, rfl, hab, hvb, nav, nar, nvr, ?_, p5 _ (fun i st' ds' e => by cases e)⟩, hblk.keeps k5 (fun b hb f => hb.2 f), ⟨(hQ.more hm hl).1, (hQ.more hm hl).2, by simpa using hn⟩, hr1, hr2⟩, hbv, hav, hvv⟩, hM.r, hM.W, hback w5 k5, hM.ok⟩, rfl, fun _ e => e, fun _ e => .inl e, k5⟩
      rw [show (h.grp.map fun s => Value.bool (decide (s ∈ ss ++ [fi]))) = h.grp.map fun s => .bool (nowF (fun s => decide (s ∈ ss)) fi s) from List.map_congr_left (fun s _ => by rw [now_lay])]
      exact p4
    · rintro hc - k w5 ⟨p1, p2, p3, p4, p5, p6⟩ hn w' hB' hk'
      have hm := List.mem_of_getElem? p1
      have hl : fi ∉ ss := by simpa using p2
      rw [count_lay hnd hQ hm hl] at hn
      rw [lay_yes hc hm p2 hQ.2.2, if_neg (by omega)]
      have k5 := (kS w5 p6).trans (hk'.mono (T := W) (fun b _ e => e ▸ hM.r))
      refine ⟨Z, W, _, rfl, ⟨⟨gv, rsz, bv, 3, _, _, tag.1, tag.2, 0, hB', hslice w' k5, hgz, hrs, ⟨rfl, rfl, fun _ => ⟨rfl, rfl, fun e => by rw [e]; rfl, fun e => by rw [e]; exact hblk.keeps k5 (fun b hb f => hb.2 f)⟩, fun e => absurd rfl e⟩, hbv, hav, hvv⟩, hM.r, hM.W, hback w' k5, hM.ok⟩, rfl, fun _ e => e, fun _ e => .inl e, k5⟩
    · intro _ h2
      exact absurd h2 (by decide)
end Go.Proofs.Ytcihfjfbcfgidaa
