/- The reference's Take. -/
import Derived.Test.YtghbgcmhahndkaaRefTally
namespace Go.Proofs.Ytghbgcmhahndkaa
open Go.RowKit Go.Maps
set_option linter.unusedVariables false

theorem look_put_same {got : List (Int × Int)} {s : Int} (x : Int) (h : look got s = none) : look (got ++ [(s, x)]) s = some x := by rw [look_snoc, h]; simp
theorem look_put_other {got : List (Int × Int)} {s s' : Int} (x : Int) (h : s' ≠ s) : look (got ++ [(s, x)]) s' = look got s' := by
  rw [look_snoc]
  cases hl : look got s' with
  | some y => rfl
  | none => simp [Ne.symm h]
theorem map_put {grp : List Int} {s : Int} {j : Nat} (f f' : Int → Value) (v : Value) (hn : grp.Nodup) (hj : grp[j]? = some s) (h1 : f' s = v) (h2 : ∀ s', s' ≠ s → f' s' = f s') : (grp.map f).set j v = grp.map f' := by
  apply List.ext_getElem?
  intro i
  rw [List.getElem?_set]
  obtain ⟨hjl, hje⟩ := List.getElem?_eq_some_iff.1 hj
  by_cases e : j = i
  · subst e
    simp [hjl, hje, h1]
  · rw [if_neg e]
    simp only [List.getElem?_map]
    cases hi : grp[i]? with
    | none => rfl
    | some s' =>
      simp only [Option.map_some]
      rw [h2]
      intro es
      subst es
      obtain ⟨hil, hie⟩ := List.getElem?_eq_some_iff.1 hi
      exact e ((List.getElem_inj hn).1 (hje.trans hie.symm))
theorem hasF_put {got : List (Int × Int)} {s : Int} (x : Int) (h : look got s = none) : ∀ (grp : List Int), grp.Nodup → s ∈ grp → (hasF grp (got ++ [(s, x)])).length = (hasF grp got).length + 1
  | [], _, hm => by cases hm
  | y :: ys, hn, hm => by
    have hn' := List.nodup_cons.1 hn
    have hc : ∀ (l : List Int) (y : Int), hasF (y :: l) got = (if (look got y).isSome then [y] else []) ++ hasF l got := fun l y => by unfold hasF; rw [List.filter_cons]; split <;> rfl
    have hc' : ∀ (l : List Int) (y : Int), hasF (y :: l) (got ++ [(s, x)]) = (if (look (got ++ [(s, x)]) y).isSome then [y] else []) ++ hasF l (got ++ [(s, x)]) := fun l y => by unfold hasF; rw [List.filter_cons]; split <;> rfl
    rw [hc, hc']
    by_cases e : y = s
    · subst e
      have e2 : hasF ys (got ++ [(y, x)]) = hasF ys got := by
        unfold hasF
        apply List.filter_congr
        intro z hz
        rw [look_put_other x (fun q => hn'.1 (by rw [← q]; exact hz))]
      rw [e2, look_put_same x h, h]
      simp
    · have hm' : s ∈ ys := by rcases List.mem_cons.1 hm with h1 | h1
                              · exact absurd h1.symm e
                              · exact h1
      rw [look_put_other x e, List.length_append, List.length_append, hasF_put x h ys hn'.2 hm']
      omega

/-- The tally's list and the group fit. -/
def Fit (grp : List Int) (got : List (Int × Int)) : Prop := (hasF grp got).length = got.length
theorem Fit.nil (grp : List Int) : Fit grp [] := by unfold Fit hasF; simp [look_nil]
theorem takes_true {grp : List Int} {need : Int} {got : List (Int × Int)} {s : Int} (h : takes grp need got s = true) : look got s = none ∧ ¬ need ≤ (got.length : Int) ∧ s ∈ grp := by
  unfold takes at h
  simp only [Bool.and_eq_true, Bool.not_eq_true', decide_eq_true_eq, decide_eq_false_iff_not] at h
  obtain ⟨⟨h1, h2⟩, h3⟩ := h
  exact ⟨by simpa using h1, h2, h3⟩
theorem Fit.took {grp : List Int} {need : Int} {got : List (Int × Int)} {s x : Int} (h : Fit grp got) (hn : grp.Nodup) : Fit grp (tookF grp need got s x) := by
  unfold tookF
  split
  · next ht =>
    obtain ⟨h1, _, h3⟩ := takes_true ht
    unfold Fit at h ⊢
    rw [hasF_put x h1 grp hn h3, h, List.length_append]; rfl
  · exact h
theorem Fit.le {grp : List Int} {got : List (Int × Int)} (h : Fit grp got) : got.length ≤ grp.length := by
  unfold Fit at h; rw [← h]; exact List.length_filter_le _ _

/-- Two blocks. -/
def Pair2 (a b : Nat) : Nat → Prop := fun k => k = a ∨ k = b

def RTook (r base : Nat) (G : Value) (bv bh : Nat) (grp : List Int) (need : Int) (got : List (Int × Int)) (s x : Int) (w : World) (e : Ending) (w' : World) : Prop :=
  e = .returned (.bool (TookB grp need got s)) ∧ RT w' r base G bv bh grp need (tookF grp need got s x) ∧ Keeps (Pair2 bv bh) w w'

set_option maxRecDepth 100000 in
set_option maxHeartbeats 1600000 in
theorem reftake_any (r base : Nat) (G : Value) (bv bh : Nat) (grp : List Int) (need : Int) (got : List (Int × Int)) (s x : Int) (w : World) (hT : RT w r base G bv bh grp need got) (hgl : grp.length ≤ 17592186044416) (hfit : Fit grp got) (hnd : grp.Nodup) :
    Calls Try.prog 20 #[.pointer (some ⟨r, 0, Option.none⟩), .int .i64 s, .int .i64 x] w (RTook r base G bv bh grp need got s x w) := by
  obtain ⟨A, cv, rfl, -, hN, -⟩ := hT.row.open_
  have c0 := hT.blk.cell 0 _ rfl
  have HF := Lib.hid hfit
  have HN := Lib.hid hnd
  clear hfit hnd
  go_enter Try.func20, Try.ntmps20
  go_wp2_with fail
  refine (refplace_any A grp.length cv grp s w hN rfl (by omega)).mono ?_
  rintro e w0 ⟨hd0, kk, rfl, hpl⟩
  have hT0 := hT.drew hd0
  have hK0 := hd0.keeps (Pair2 bv bh)
  clear hT hN c0 hd0
  rcases hpl with ⟨rfl, hni⟩ | ⟨j, rfl, hj, hjs⟩
  · have E : Hid (takes grp need got s = false) := Lib.hid (by unfold takes; simp [hni])
    clear hni
    go_wp2_with fail
    go_ret
    exact ⟨ret_bool (by unfold TookB; rw [E.out]; rfl), by unfold tookF; rw [E.out]; exact hT0, hK0⟩
  · have hm := Lib.hid (List.mem_of_getElem? hjs)
    have HJ := Lib.hid hjs
    have ch := hT0.hasAt hjs
    have c2 := hT0.blk.cell 2 _ rfl
    clear hjs
    obtain ⟨H, hH⟩ : ∃ H : Bool, H = (look got s).isSome := ⟨_, rfl⟩
    rw [← hH] at ch
    cases H with
    | true =>
      have E : Hid (takes grp need got s = false) := Lib.hid (by unfold takes; simp [← hH])
      clear hH
      go_wp2_with fail
      go_ret
      exact ⟨ret_bool (by unfold TookB; rw [E.out]; rfl), by unfold tookF; rw [E.out]; exact hT0, hK0⟩
    | false =>
      have HL : Hid (look got s = none) := Lib.hid (by simpa using hH.symm)
      clear hH
      go_wp2_with fail
      refine (refenough_any r base _ bv bh grp need got w0 hT0 hgl).mono ?_
      rintro e w1 ⟨hd1, rfl⟩
      have hT1 := hT0.drew hd1
      have hK1 := hK0.trans (hd1.keeps _)
      rw [show ((hasF grp got).length : Int) = got.length from by rw [HF.out]]
      by_cases hen : need ≤ (got.length : Int)
      · have E : Hid (takes grp need got s = false) := Lib.hid (by unfold takes; simp [hen])
        rw [decide_eq_true hen]
        clear hen
        go_wp2_with fail
        go_ret
        exact ⟨ret_bool (by unfold TookB; rw [E.out]; rfl), by unfold tookF; rw [E.out]; exact hT1, hK1⟩
      · have E : Hid (takes grp need got s = true) := Lib.hid (by unfold takes; simp [hen, HL.out, hm.out])
        rw [decide_eq_false hen]
        clear hen
        have d1 := hT1.blk.cell 1 _ rfl
        have d2 := hT1.blk.cell 2 _ rfl
        have v1 := hT1.valAt HJ.out
        have v2 := hT1.hasAt HJ.out
        have f1 := hT1.vals.free j
        have f2 := hT1.has.free j
        obtain ⟨n1, n2, n3, n4⟩ := hT1.ne
        have hT2 : RT ((w1.setCell ⟨bh, j, Option.none⟩ (.bool true)).setCell ⟨bv, j, Option.none⟩ (.int .i64 x)) r base (.slice A grp.length cv) bv bh grp need (got ++ [(s, x)]) := by
          refine ⟨(hT1.blk.other _ _ (by simpa using n2)).other _ _ (by simpa using n1), ?_, ?_, ?_, hT1.hb, hT1.ne⟩
          · exact (hT1.row.keeps (S := One bh) ((Keeps.refl _ _).setCell ⟨bh, j, Option.none⟩ _ (fun _ => rfl)) (fun b e f => (n4 b e).2.2 f)).keeps (S := One bv) ((Keeps.refl _ _).setCell ⟨bv, j, Option.none⟩ _ (fun _ => rfl)) (fun b e f => (n4 b e).2.1 f)
          · have h := (hT1.vals.other ⟨bh, j, Option.none⟩ (.bool true) (by simpa using n3)).set j (.int .i64 x)
            rwa [map_put _ (fun s' => .int .i64 (valF (got ++ [(s, x)]) s')) _ HN.out HJ.out (by simp [valF, look_put_same x HL.out]) (fun s' h => by simp [valF, look_put_other x h])] at h
          · have h := (hT1.has.set j (.bool true)).other ⟨bv, j, Option.none⟩ (.int .i64 x) (by simpa using Ne.symm n3)
            rwa [map_put _ (fun s' => .bool (look (got ++ [(s, x)]) s').isSome) _ HN.out HJ.out (by simp [look_put_same x HL.out]) (fun s' h => by simp [look_put_other x h])] at h
        have hK2 : Keeps (Pair2 bv bh) w ((w1.setCell ⟨bh, j, Option.none⟩ (.bool true)).setCell ⟨bv, j, Option.none⟩ (.int .i64 x)) := (hK1.setCell _ _ (fun _ => .inr rfl)).setCell _ _ (fun _ => .inl rfl)
        have d1' := (hT1.blk.other ⟨bh, j, Option.none⟩ (.bool true) (by simpa using n2)).cell 1 _ rfl
        have v1' := (hT1.vals.other ⟨bh, j, Option.none⟩ (.bool true) (by simpa using n3)).cell j _ (by rw [List.getElem?_map, HJ.out]; rfl)
        have f1' := (hT1.vals.other ⟨bh, j, Option.none⟩ (.bool true) (by simpa using n3)).free j
        have hF2 : Hid ((hasF grp (got ++ [(s, x)])).length = got.length + 1) := Lib.hid (by rw [hasF_put x HL.out grp HN.out hm.out, HF.out])
        clear ch c2 hT0 hK0 hd1 n1 n2 n3 n4
        go_wp2_with fail
        refine (refenough_any r base _ bv bh grp need (got ++ [(s, x)]) _ hT2 hgl).mono ?_
        rintro e w3 ⟨hd3, rfl⟩
        have hT3 := hT2.drew hd3
        go_wp2_with fail
        go_ret
        exact ⟨ret_bool (by unfold TookB; rw [E.out, hF2.out]; simp), by unfold tookF; rw [E.out]; exact hT3, hK2.trans (hd3.keeps _)⟩
end Go.Proofs.Ytghbgcmhahndkaa
