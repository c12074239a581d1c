/- WireWrites: every row of puts into the program's writer, Done asked between them and behind them, tells what the reference's Done tells of the things that were put. No condition. -/
import Derived.Test.YtnhhmkgcgogddaaItems
import Derived.Test.YtnhhmkgcgogddaaPutting
namespace Go.Proofs.Ytnhhmkgcgogddaa.wireWrites
open Go.ChangeShapes Go.WideShapes Go.ChangeAt Go.RowKit
open Go.ChangeMaps (open_string shut_string)
set_option linter.unusedVariables false

def LawEnd (w : World) (e : Ending) (w' : World) : Prop := e = .returned (.bool true) ∧ Below w.heap.size w w'

/-- The things that were put, as their slice holds them. -/
def itCells (its : List It) : List Value := its.flatMap fun x => [.int .i64 x.kind, .int .i64 x.n, .slice x.A x.len x.cap]
theorem itCells_length (its : List It) : (itCells its).length = its.length * 3 := by
  induction its with
  | nil => rfl
  | cons x its ih => simp [itCells] at ih ⊢; omega
theorem itCells_snoc (its : List It) (x : It) : itCells (its ++ [x]) = itCells its ++ [.int .i64 x.kind, .int .i64 x.n, .slice x.A x.len x.cap] := by simp [itCells]
theorem itCells_at : ∀ (its : List It) (j : Nat) (x : It), its[j]? = some x → (itCells its)[j * 3]? = some (.int .i64 x.kind) ∧ (itCells its)[j * 3 + 1]? = some (.int .i64 x.n) ∧ (itCells its)[j * 3 + 2]? = some (.slice x.A x.len x.cap)
  | [], j, x, h => by simp at h
  | y :: its, 0, x, h => by simp at h; subst h; simp [itCells]
  | y :: its, j + 1, x, h => by
    have ih := itCells_at its j x (by simpa using h)
    have e : itCells (y :: its) = [.int .i64 y.kind, .int .i64 y.n, .slice y.A y.len y.cap] ++ itCells its := by simp [itCells]
    have hk : ∀ d, (itCells (y :: its))[(j + 1) * 3 + d]? = (itCells its)[j * 3 + d]? := fun d => by
      rw [e, List.getElem?_append_right (by simp; omega)]
      congr 1
      simp; omega
    exact ⟨by have := hk 0; simp only [Nat.add_zero] at this; rw [this]; exact ih.1, by rw [hk 1]; exact ih.2.1, by rw [hk 2]; exact ih.2.2⟩

/-- An owned row of things. -/
def Now (w : World) (base : Nat) (v : Value) (its : List It) : Prop := w.ownsRow base 32 3 v its.length (itCells its)
theorem Now.open_ {w : World} {base : Nat} {v : Value} {its : List It} (h : Now w base v its) : ∃ A c, v = .slice A its.length c ∧ its.length ≤ c ∧ ItsAt w A its := by
  rcases h.2 with ⟨rfl, h0⟩ | ⟨g, cap, cur, rfl, hb, hg, hn, hc, hs, ht⟩
  · obtain rfl := List.eq_nil_of_length_eq_zero h0
    exact ⟨Option.none, 0, rfl, Nat.le_refl _, fun j x hx => by simp at hx⟩
  · refine ⟨_, cap, rfl, hn, fun j x hx => ⟨g, 0, rfl, ?_⟩⟩
    have hj : j < its.length := (List.getElem?_eq_some_iff.1 hx).1
    obtain ⟨h0, h1, h2⟩ := itCells_at its j x hx
    rw [← ht] at h0 h1 h2
    simp only [Nat.zero_add]
    refine ⟨?_, ?_, ?_⟩
    · rw [cell_of_row w g _ cur _ (0, 0) hg, ← Array.getElem?_toList, ← h0, List.getElem?_take, if_pos (by omega)]
    · rw [cell_of_row w g _ cur _ (0, 0) hg, ← Array.getElem?_toList, ← h1, List.getElem?_take, if_pos (by omega)]
    · rw [cell_of_row w g _ cur _ (0, 0) hg, ← Array.getElem?_toList, ← h2, List.getElem?_take, if_pos (by omega)]

theorem Now.nil (w : World) (base : Nat) : Now w base (.slice Option.none 0 0) [] := World.ownsRow_nil _ _ _ _
theorem Now.keeps {S : Nat → Prop} {w w' : World} {base : Nat} {v : Value} {its : List It} (h : Now w base v its) (hk : Keeps S w w') (hS : ∀ g, v.ownBlock = some g → ¬ S g) : Now w' base v its := owns_keeps h hk hS

structure Inv (w : World) (its : List It) (g : Nat) (k : Nat) (vN : Value) (wr : World) : Prop where
  mk :: (out : ∃ (v : Value) (bad : Bool) (zs : List Int) (got : List It), Wr wr g w.heap.size v bad zs ∧ Now wr w.heap.size vN got ∧ (∀ b, vN.ownBlock = some b → b ≠ g ∧ ¬ v.ownBlock = some b) ∧ got.any It.bad = bad ∧ (bad = false → zs = outF got) ∧ got.length ≤ k ∧ zs.length ≤ 65546 * k ∧ (∀ x ∈ got, x.Ok w) ∧ Keeps None w wr)

theorem Inv.next {w : World} {its : List It} {g k : Nat} {vN : Value} {wr w' : World} (h : Inv w its g k vN wr) (hk : Keeps None wr w') : Inv w its g (k + 1) vN w' := by
  obtain ⟨v, bad, zs, got, a1, a2, a3, a4, a5, a6, a7, a8, a9⟩ := h.out
  exact ⟨v, bad, zs, got, a1.grew hk, a2.keeps hk (fun _ _ f => f), a3, a4, a5, by omega, by omega, a8, a9.trans hk⟩

theorem Try.infoItem : (Try.prog.info? 32).map (fun i => (i.zero, i.size, i.bytes)) = some (some (.agg #[.int .i64 0, .int .i64 0, .slice Option.none 0 0]), 3, 40) := by kernel_rfl

/-- One thing more. -/
theorem Inv.more {w : World} {its : List It} {g k : Nat} {wr w1 w2 w3 w4 : World} {v v' vN v'' : Value} {bad : Bool} {zs : List Int} {got : List It} (x : It) (hgw : g < wr.heap.size)
    (hoff : ∀ b, vN.ownBlock = some b → b ≠ g ∧ ¬ v.ownBlock = some b) (hbad : got.any It.bad = bad) (hout : bad = false → zs = outF got) (hgl : got.length ≤ k) (hzl : zs.length ≤ 65546 * k) (hok : ∀ x ∈ got, x.Ok w) (hx : x.Ok w)
    (hN : Now wr w.heap.size vN got) (hK1 : Keeps None w w1) (h01 : Keeps None wr w1)
    (hP : Wr w2 g w.heap.size v' (if x.kind = 1 ∧ x.n < 0 then true else bad) (if x.kind = 1 ∧ x.n < 0 then zs else zs ++ itemF x.kind x.n x.bs)) (hv : ∀ b, v.ownBlock = some b → w.heap.size ≤ b) (hg : w.heap.size ≤ g) (hk2 : Keeps (Wt g v) w1 w2) (hn2 : ∀ b, v'.ownBlock = some b → v.ownBlock = some b ∨ w1.heap.size ≤ b)
    (h23 : Keeps None w2 w3) (hap : w4.ownsRow w.heap.size 32 3 v'' (got.length + 1) (itCells got ++ [.int .i64 x.kind, .int .i64 x.n, .slice x.A x.len x.cap])) (hk4 : Keeps (OwnB vN) w3 w4) (hloc : v''.ownBlock = vN.ownBlock ∨ v''.ownBlock = some w3.heap.size) :
    Inv w its g (k + 1) v'' w4 := by
  have hNlt := fun b (e : vN.ownBlock = some b) => World.ownsRow.lt hN b e
  have hs1 := h01.size
  have hs2 := hk2.size
  have hs3 := h23.size
  have hvl := fun b (e : v'.ownBlock = some b) => (hP.2.1.lt b e).2
  have hP3 := hP.grew h23
  have hP4 : Wr w4 g w.heap.size v' _ _ := hP3.keeps hk4 (fun e => (hoff g e).1 rfl) (fun b hb e => by
    rcases hn2 b hb with h | h
    · exact (hoff b e).2 h
    · have := (hNlt b e).2; omega)
  refine ⟨v', _, _, got ++ [x], hP4, ?_, ?_, ?_, ?_, by simp; omega, ?_, ?_, ?_⟩
  · unfold Now
    rw [List.length_append, itCells_snoc]
    exact hap
  · intro b hb
    rcases hloc with e | e
    · rw [e] at hb
      refine ⟨(hoff b hb).1, fun h => ?_⟩
      rcases hn2 b h with h' | h'
      · exact (hoff b hb).2 h'
      · have := (hNlt b hb).2; omega
    · rw [e] at hb
      cases hb
      refine ⟨by omega, fun h => ?_⟩
      have := hvl _ h; omega
  · rw [List.any_append, hbad]
    simp only [List.any_cons, List.any_nil, Bool.or_false, It.bad]
    split
    · next h => simp [h.1, h.2]
    · next h =>
      cases bad with
      | true => rfl
      | false => simp; intro h1; have := fun h2 => h ⟨h1, h2⟩; omega
  · intro hf
    split at hf
    · cases hf
    · next h => rw [if_neg h, hout hf, outF_snoc]; rfl
  · have := itemF_len (kind := x.kind) (n := x.n) (bs := x.bs) (by rw [hx.len]; exact hx.long) hx.n
    split
    · omega
    · rw [List.length_append]; omega
  · intro y hy
    rcases List.mem_append.1 hy with h | h
    · exact hok y h
    · simp at h; subst h; exact hx
  · refine Keeps.andThen (Keeps.trans (Keeps.andThen hK1 hk2 (fun i hi e => ?_)) h23) hk4 (fun i hi e => ?_)
    · rcases e with e | e
      · omega
      · have := hv i e; omega
    · have := (hNlt i e).1; omega

set_option maxRecDepth 100000 in
set_option maxHeartbeats 3200000 in
theorem walk (A : Option Addr) (n cap : Nat) (its : List It) (w : World) (hA : ItsAt w A its) (hraw : ∀ x ∈ its, x.Raw w) (hn : its.length = n) (hr : n ≤ 140737488351232) :
    Calls Try.prog 5 #[.slice A n cap] w (LawEnd w) := by
  subst hn
  go_enter Try.func5, Try.ntmps5
  go_wp2
  go_loopw [4, 5] (fun y i wr => ∃ (k : Nat), k ≤ its.length ∧ k ≤ 400 ∧ i = .int .i64 k ∧ Inv w its w.heap.size k y wr) (fun _ i _ => its.length - (intOf i).toNat)
  case atStart =>
    refine ⟨0, Nat.zero_le _, by omega, rfl, ⟨.slice Option.none 0 0, false, [], [], ⟨Blk.new w _ _, Row.nil _ _ _ _, fun b e => by simp [Value.ownBlock] at e⟩, Now.nil _ _, fun b e => by simp [Value.ownBlock] at e, rfl, fun _ => rfl, Nat.le_refl _, Nat.zero_le _, by simp, (Keeps.refl _ _).alloc _⟩⟩
  case round =>
    obtain ⟨k, hk, hk4, rfl, hInv⟩ := hrel
    obtain ⟨v, bad, zs, got, hw, hN, hoff, hbad, hout, hgl, hzl, hok, hK⟩ := hInv.out
    have hs := hK.size
    obtain ⟨AN, cN, rfl, hcN, hNI⟩ := hN.open_
    by_cases hlt : k < its.length
    · by_cases h4 : k < 400
      · obtain ⟨x, hx⟩ : ∃ x, its[k]? = some x := ⟨_, List.getElem?_eq_getElem hlt⟩
        have raw := hraw x (List.mem_of_getElem? hx)
        obtain ⟨kind, nn, Ax, lx, cx, bs⟩ := x
        obtain ⟨b, o, rfl, c0, c1, c2⟩ := (hA.grew hK) k _ hx
        clear hx
        simp only at c0 c1 c2
        have hwg := hw.1.lt
        have HB := Lib.hid (And.intro hbad hout)
        have HO := Lib.hid hok
        have HR := Lib.hid raw
        have HI := Lib.hid hInv
        have hka : Keeps None wr (wr.alloc (.cells #[.int .i64 kind, .int .i64 nn, .slice Ax lx cx] 32)) := (Keeps.refl _ _).alloc _
        clear hbad hout hok hInv hA hraw raw
        by_cases hk5 : kind = 5
        · subst hk5
          have hBx := Blk.new wr 32 [.int .i64 5, .int .i64 nn, .slice Ax lx cx]
          go_wp2_with fail
          refine (asked_any w.heap.size w.heap.size v bad zs AN got.length cN got _ (hw.grew hka) (hNI.grew hka) (fun x hx => ((HO.out x hx).grew hK).grew hka) rfl (by omega) (by omega) HB.out.1 HB.out.2).mono ?_
          rintro e w1 ⟨rfl, hk1⟩
          have d0 := (hBx.grew hk1).cell 0 _ rfl
          go_wp2_with fail
          go_roundw
          case rel => exact ⟨k + 1, by omega, by omega, by go_num, HI.out.next (hka.trans hk1)⟩
          case measure => simp [intOf]; omega
        · obtain ⟨t1, t2⟩ := test_ne hk5
          by_cases hkr : 1 ≤ kind ∧ kind ≤ 4
          · by_cases hlx : lx ≤ 65536
            · have hBx := Blk.new wr 32 [.int .i64 kind, .int .i64 nn, .slice Ax lx cx]
              have hK1 := hK.trans hka
              have hvlt := fun b (e : v.ownBlock = some b) => hw.2.1.lt b e
              have hNum : ∀ w', Keeps (Wt w.heap.size v) (wr.alloc (.cells #[.int .i64 kind, .int .i64 nn, .slice Ax lx cx] 32)) w' → Nums .u8 w' Ax bs := fun w' h =>
                HR.out.nums.grew (hK1.andThen h (fun i hi e => by
                  rcases e with e | e
                  · omega
                  · have := (hvlt i e).1; omega))
              have hOk : It.Ok w ⟨kind, nn, Ax, lx, cx, bs⟩ := ⟨HR.out.nums, HR.out.len, HR.out.bytes, HR.out.nil, HR.out.n, hlx⟩
              have HOK := Lib.hid hOk
              have HNU := Lib.hid hNum
              clear hNum hOk
              go_wp2_with fail
              refine (putting_any w.heap.size w.heap.size v bad zs kind nn Ax lx cx bs _ (hw.grew hka) (by have := hka.size; omega) HNU.out HOK.out.len hlx HOK.out.bytes HOK.out.n hkr (by omega)).mono ?_
              rintro e w2 ⟨rfl, v2, hP, hk2, hn2⟩
              have hxoff : ¬ Wt w.heap.size v wr.heap.size := by
                rintro (f | f)
                · omega
                · have := (hvlt _ f).2; omega
              have hBx2 := hBx.keeps hk2 hxoff
              have d0 := hBx2.cell 0 _ rfl
              have d1 := hBx2.cell 1 _ rfl
              have d2 := hBx2.cell 2 _ rfl
              have hNI2 : Now w2 w.heap.size (.slice AN got.length cN) got := (hN.keeps hka (fun _ _ f => f)).keeps hk2 (fun b e f => by
                rcases f with f | f
                · exact (hoff b e).1 f
                · exact (hoff b e).2 f)
              have HP := Lib.hid (And.intro hP hn2)
              have HN := Lib.hid (And.intro hN hNI2)
              have hs2 := Nat.le_trans hka.size hk2.size
              have hkn : Keeps None w2 (w2.alloc (.cells #[.int .i64 kind, .int .i64 nn, .slice Ax lx cx] 32)) := (Keeps.refl _ _).alloc _
              obtain ⟨i3, hi, hz0, hz1, hz2⟩ := info_parts Try.infoItem
              clear hN hNI2 hP hn2 hBx hBx2
              go_wp2_with (at_builtin; refine wpList_append_row _ rfl (.tmp 46) (.tmp 48) 28 rfl w.heap.size 32 i3 (.agg #[.int .i64 0, .int .i64 0, .slice Option.none 0 0]) 3 40 Try.underlying28 hi hz0 hz1 hz2 rfl (by decide) _ got.length _ rfl (HN.out.2.keeps hkn (fun _ _ f => f)) (some ⟨w2.heap.size, 0, Option.none⟩) 1 1 [.int .i64 kind, .int .i64 nn, .slice Ax lx cx] rfl rfl (fun e => by cases e) (src_new w2 32 _ _ rfl) (by intro u hu; simp at hu; rcases hu with rfl | rfl | rfl <;> rfl) (by unfold maxLen; omega) (by omega) (by have := hkn.size; omega) ?_; intro v3 w3 hown hk3 hloc)
              go_roundw
              case rel => exact ⟨k + 1, by omega, by omega, by go_num, Inv.more ⟨kind, nn, Ax, lx, cx, bs⟩ hwg hoff HB.out.1 HB.out.2 hgl hzl HO.out HOK.out HN.out.1 hK1 hka HP.out.1 (fun b e => (hvlt b e).1) (Nat.le_refl _) hk2 HP.out.2 hkn hown hk3 hloc⟩
              case measure => simp [intOf]; omega
            · go_wp2_with fail
              go_roundw
              case rel => exact ⟨k + 1, by omega, by omega, by go_num, HI.out.next hka⟩
              case measure => simp [intOf]; omega
          · by_cases hkl : kind < 1
            · go_wp2_with fail
              go_roundw
              case rel => exact ⟨k + 1, by omega, by omega, by go_num, HI.out.next hka⟩
              case measure => simp [intOf]; omega
            · go_wp2_with fail
              go_roundw
              case rel => exact ⟨k + 1, by omega, by omega, by go_num, HI.out.next hka⟩
              case measure => simp [intOf]; omega
      · obtain rfl : k = 400 := by omega
        have HB := Lib.hid (And.intro hbad hout)
        have HO := Lib.hid hok
        clear hbad hout hok hInv hA hraw
        go_wp2_with fail
        refine (asked_any w.heap.size w.heap.size v bad zs AN got.length cN got _ hw hNI (fun x hx => (HO.out x hx).grew hK) rfl (by omega) (by omega) HB.out.1 HB.out.2).mono ?_
        rintro e w1 ⟨rfl, hk1⟩
        go_wp2_with fail
        refine (asked_any w.heap.size w.heap.size v bad zs AN got.length cN got _ (hw.grew hk1) (hNI.grew hk1) (fun x hx => (HO.out x hx).grew (hK.trans hk1)) rfl (by omega) (by omega) HB.out.1 HB.out.2).mono ?_
        rintro e w2 ⟨rfl, hk2⟩
        go_wp2_with fail
        go_ret
        exact ⟨rfl, ((hK.trans hk1).trans hk2).to_below⟩
    · obtain rfl : k = its.length := by omega
      have HB := Lib.hid (And.intro hbad hout)
      have HO := Lib.hid hok
      clear hbad hout hok hInv hA hraw
      go_wp2_with fail
      refine (asked_any w.heap.size w.heap.size v bad zs AN got.length cN got _ hw hNI (fun x hx => (HO.out x hx).grew hK) rfl (by omega) (by omega) HB.out.1 HB.out.2).mono ?_
      rintro e w1 ⟨rfl, hk1⟩
      go_wp2_with fail
      refine (asked_any w.heap.size w.heap.size v bad zs AN got.length cN got _ (hw.grew hk1) (hNI.grew hk1) (fun x hx => (HO.out x hx).grew (hK.trans hk1)) rfl (by omega) (by omega) HB.out.1 HB.out.2).mono ?_
      rintro e w2 ⟨rfl, hk2⟩
      go_wp2_with fail
      go_ret
      exact ⟨rfl, ((hK.trans hk1).trans hk2).to_below⟩
set_option maxRecDepth 100000 in
theorem lifted (os : Os) (started : os.Started) (H : Type) (enc : TypeId × Value → H) :
    ReturnsInHanded {} Try.checked os 5 .any (Rows.wireWritesSpec.pre6 enc Try.prog Try.f5 Rows.wireWritesRow.domain false) (Rows.wireWritesSpec.post enc Try.prog Try.f5 false true false false) := by
  refine returnsInHanded_of_change_sized (C := Try.checked) Try.own started (by kernel_rfl) Try.func5
    (ChangeSpec.witness6 (enc := enc) (C := Try.checked) false ⟨#[], #[.slice none 0 0], []⟩ 8 (by kernel_rfl) (by kernel_rfl) (by kernel_rfl) (by kernel_rfl)) ?_
  intro W base args ds gs before hval0 hW hcnd hsz0 _
  have hsz : (DataW.weightsEach Try.prog (Try.f5.params.toList ++ Rows.wireWritesSpec.plain.varTypes Try.prog) (ds ++ gs)).all (· ≤ reachBytes) = true := hsz0
  have hval : ∀ (j : Nat) t v, Try.f5.params[j]? = some t → args[j]? = some v → Value.okWide Try.prog W .any base t v := hval0
  have hW' := hW
  obtain ⟨p, q, hA0, hV, rfl, hfz, hnd⟩ := hW
  have hA : DataW.TrodAll enc Try.prog W 0 (fun _ => true) true Try.f5.params.toList args.toList ds p := hA0
  rw [Try.params5] at hA hval hsz
  obtain ⟨v0, vs0, d0, ds0, p0, q0, hargs, rfl, rfl, h0, r0⟩ := trodAll_cons hA
  obtain ⟨rfl, rfl, rfl⟩ := trodAll_nil r0
  obtain rfl : args = #[v0] := by cases args; simp_all
  obtain ⟨rfl, rfl⟩ := trodVars_none hV
  have k0 := h0
  have lt0 : ∀ x ∈ p0, x.block < W.heap.size := by obtain ⟨m, hm⟩ := k0; exact DataW.trod_lt m _ _ _ hm
  obtain ⟨a0, len0, cap0, rfl⟩ := okWide_slice Try.underlying28 (hval 0 28 v0 rfl rfl)
  obtain ⟨z0, n0, w0, y0⟩ := open_items hsz (j := 0) rfl rfl h0
  clear hA0 hval0 hsz0 hsz
  refine (walk a0 len0 cap0 z0 W w0 y0.1 n0 y0.2.1).mono fun e W' ⟨he, bel⟩ => ?_
  subst he
  exact ⟨_, rfl, _, _, _, [], _, [], hW', trodAll_mk1 (shut_bool Try.underlying4 _), (trodAll_cons_mk (Below.trod Try.laidOut (by kernel_rfl) (of_decide_eq_true (by kernel_rfl)) k0 bel lt0) trodAll_mk0), rfl, bel.frame _, fun h => by cases h⟩

theorem over : Rows.wireWritesRow.holds Try.pinned (OpenSpec.ofChange Rows.wireWritesSpec) :=
  OpenClaim.holds_of_wide 5 Try.f5 rfl rfl rfl rfl rfl rfl rfl ⟨rfl, rfl, rfl, rfl, rfl⟩ rfl rfl rfl rfl rfl (by kernel_rfl) Try.func5 (by kernel_rfl)
    (of_decide_eq_true (by kernel_rfl)) (by unfold Func.isWrapper; first | (rw [if_pos (by decide +kernel)]; kernel_rfl) | (rw [if_neg (by decide +kernel)]; exact ⟨rfl, rfl⟩))
    (fun os started H enc _ => lifted os started H enc)
end Go.Proofs.Ytnhhmkgcgogddaa.wireWrites
namespace Go.Proofs.Ytnhhmkgcgogddaa
/-- The row, under a short name, for the claim. -/
theorem wireWrites_holds : Rows.WireWritesSaid := wireWrites.over
end Go.Proofs.Ytnhhmkgcgogddaa
