/- Maps of ints by struct keys as total functions: look-up, the two halves of 'm[k] op= v', a new one. -/
import Derived.Test.YtcplogdaepmpnaaBase
import Derived.Test.YtcplogdaepmpnaaRow
import Derived.Maps.OwnSet
import Derived.Maps.OwnOps
import Derived.WideKeyEntry
import Derived.DeepKeys4
namespace Go.Proofs.Ytcplogdaepmpnaa
open Go.RowKit Go.Maps Go.ChangeMaps Go.WideElems

structure KeyS (k : TypeId) (κ : Type) where
  val : κ → Value
  lit : κ → Lit
  ok : κ → Prop
  law : WideMaps.KeyLaw Try.prog k
  key : ∀ x, ok x → keyOf Try.prog k (val x) = some (lit x)
  inj : ∀ x y, val x = val y → x = y

theorem zeroI (w : World) : (zeroValue 3).run Try.prog w = .ok (.int .i64 0) w := by kernel_rfl

def IntV (y : Int) : Prop := (Lit.int .i64 y).wf = true

open Classical in
noncomputable def upd {κ : Type} (f : κ → Int) (x : κ) (y : Int) : κ → Int := fun z => if z = x then y else f z
theorem upd_same {κ : Type} (f : κ → Int) (x : κ) (y : Int) : upd f x y x = y := by simp [upd]
theorem upd_other {κ : Type} (f : κ → Int) (x : κ) (y : Int) (z : κ) (h : z ≠ x) : upd f x y z = f z := by simp [upd, h]

section
variable {k : TypeId} {κ : Type} (S : KeyS k κ)

def MapF (w : World) (b n : Nat) (f : κ → Int) : Prop :=
  ∃ D : DataW Unit, w.ownsMap Try.prog k (plainElem Try.prog 3) b n D ∧ ∀ x, S.ok x → D.atKey (S.lit x) (.lit (.int .i64 0)) = .lit (.int .i64 (f x))

variable {S} {w : World} {b n : Nat} {f : κ → Int}

theorem MapF.lt (h : MapF S w b n f) : b < w.heap.size := by obtain ⟨D, h1, _⟩ := h; exact h1.lt
theorem MapF.mono (h : MapF S w b n f) {m : Nat} (hm : n ≤ m) : MapF S w b m f := by obtain ⟨D, h1, h2⟩ := h; exact ⟨D, h1.mono hm, h2⟩
theorem MapF.of_block {w' : World} (h : MapF S w b n f) (hb : w'.heap[b]? = w.heap[b]?) : MapF S w' b n f := by
  obtain ⟨D, ⟨es, clock, h1, h2⟩, h3⟩ := h
  exact ⟨D, ⟨es, clock, by rw [hb]; exact h1, h2⟩, h3⟩
theorem MapF.keeps {T : Nat → Prop} {w' : World} (h : MapF S w b n f) (hk : Keeps T w w') (hb : ¬ T b) : MapF S w' b n f := h.of_block (hk.block b h.lt hb)
theorem MapF.made (w : World) : MapF S (w.alloc (.map #[] 0)) w.heap.size 0 (fun _ => 0) :=
  ⟨_, World.ownsMap_made w _ _ _, fun _ _ => rfl⟩
theorem MapF.congr (h : MapF S w b n f) {g : κ → Int} (hg : ∀ x, S.ok x → f x = g x) : MapF S w b n g := by
  obtain ⟨D, h1, h2⟩ := h
  exact ⟨D, h1, fun x hx => by rw [h2 x hx, hg x hx]⟩

theorem MapF.look (h : MapF S w b n f) {t : TypeId} (ht : Try.prog.underlying t = some (.map k 3)) (x : κ) (hx : S.ok x) :
    (Instr.lookup t (.map (some b)) (S.val x) false).run Try.prog w = .ok (.int .i64 (f x)) w ∧ IntV (f x) := by
  obtain ⟨D, h1, h2⟩ := h
  obtain ⟨c, hrun, hat, hwc⟩ := h1.lookup_int (Keyed.of_law S.law) ht Try.underlying3 (zeroI w) (S.key x hx)
  rw [h2 x hx] at hat
  have e : f x = c := by simpa using hat
  subst e
  exact ⟨hrun, hwc⟩

theorem MapF.nilLook {t : TypeId} (ht : Try.prog.underlying t = some (.map k 3)) (x : κ) (hx : S.ok x) (w : World) : (Instr.lookup t (.map none) (S.val x) false).run Try.prog w = .ok (.int .i64 0) w := by
  have := Maps.look_nil false (Keyed.of_law S.law) ht (zeroI w) (S.key x hx)
  exact this

theorem MapF.entry (h : MapF S w b n f) {t : TypeId} (ht : Try.prog.underlying t = some (.map k 3)) (hn : n < maxLen) (x : κ) (hx : S.ok x) :
    ∃ (v0 : Value) (st : Nat) (w1 : World), (Instr.mapEntry t (.map (some b)) (S.val x)).run Try.prog w = .ok (.tuple #[v0, goInt st]) w1 ∧ MapF S w1 b (n + 1) f ∧ w.grownBy w1 (some b) ∧
      ∀ y : Int, IntV y → ∃ w3, (Instr.entryStore t (.map (some b)) (goInt st) (.int .i64 y)).run Try.prog w1 = .ok () w3 ∧ MapF S w3 b (n + 1) (upd f x y) ∧ w1.grownBy w3 (some b) := by
  obtain ⟨D, ⟨es, clock, hb, F, hs, hD⟩, h2⟩ := h
  have hkey := S.key x hx
  have hown : w.ownsMap Try.prog k (plainElem Try.prog 3) b n D := ⟨es, clock, hb, F, hs, hD⟩
  have K := Keyed.of_law S.law
  obtain ⟨v0, st, es1, clock1, hrun, hcase, hstore⟩ := entry_then_store S.law ht (fun u => zeroI u) hb F hkey
  have hb1 : (setBlock w b (.map es1 clock1)).heap[b]? = some (.map es1 clock1) := heap_setBlock_same hb _
  have hgrow : ∀ o, w.grownBy (setBlock w b o) (some b) := fun o => ⟨rfl, rfl, rfl, by simp [setBlock], fun i _ hi => heap_setBlock_other hb _ (fun e => hi (by rw [e]))⟩
  have hset : ∀ (o : Obj), setBlock (setBlock w b (.map es1 clock1)) b o = setBlock w b o := fun o => by simp [setBlock]
  -- the half-way world: as if the value found there (or zero) were stored
  have hv0 : ∃ y0, v0 = .int .i64 y0 ∧ IntV y0 ∧ f x = y0 := by
    obtain ⟨c, hrun', hat, hwc⟩ := hown.lookup_int K ht Try.underlying3 (zeroI w) hkey
    rw [h2 x hx] at hat
    have e : f x = c := by simpa using hat
    rcases Maps.fit_look false K ht (zeroI w) hb F hkey with ⟨hr, hno, _⟩ | ⟨e0, y, he0, hk0, hr, _, _, _⟩
    · rcases hcase with ⟨e1, he1, hk1, _⟩ | ⟨_, hz⟩
      · exact absurd hk1 (hno e1 he1)
      · rw [hrun'] at hr
        simp at hr
        exact ⟨0, hz, (by decide : (Lit.int .i64 0).wf = true), by rw [e, hr]⟩
    · rcases hcase with ⟨e1, he1, hk1, hv1⟩ | ⟨hno, _⟩
      · rw [hrun'] at hr
        simp at hr
        have hee : e1 = e0 := by
          have hap := fit_apart K F
          by_cases hne : e1 = e0
          · exact hne
          · exfalso
            obtain ⟨i1, hi1⟩ := List.mem_iff_getElem?.1 he1
            obtain ⟨i0, hi0⟩ := List.mem_iff_getElem?.1 he0
            have hii : i1 ≠ i0 := fun e => by rw [e, hi0] at hi1; exact hne (Option.some.inj hi1).symm
            obtain ⟨z1, hz1⟩ := F.reads e1 he1
            obtain ⟨z0, hz0⟩ := F.reads e0 he0
            have m1 := rd_key hz1
            have m0 := rd_key hz0
            rw [hk1, hkey] at m1
            rw [hk0, hkey] at m0
            rw [List.pairwise_iff_getElem] at hap
            obtain ⟨l1, g1⟩ := List.getElem?_eq_some_iff.1 hi1
            obtain ⟨l0, g0⟩ := List.getElem?_eq_some_iff.1 hi0
            have hsame : (rg Try.prog k (plainElem (H := Unit) Try.prog 3) e1).1 = (rg Try.prog k (plainElem (H := Unit) Try.prog 3) e0).1 := by
              rw [rg_of hz1, rg_of hz0]
              have a1 := Option.some.inj m1
              have a0 := Option.some.inj m0
              rw [← a1, ← a0]
            rcases Nat.lt_or_gt_of_ne hii with hl | hl
            · have := hap i1 i0 (by simpa using l1) (by simpa using l0) hl
              simp only [List.getElem_map, g1, g0] at this
              exact this hsame
            · have := hap i0 i1 (by simpa using l0) (by simpa using l1) hl
              simp only [List.getElem_map, g1, g0] at this
              exact this hsame.symm
        subst hee
        exact ⟨c, by rw [hv1, ← hr], hwc, e⟩
      · exact absurd hk0 (hno e0 he0)
  obtain ⟨y0, rfl, hy0, hfy⟩ := hv0
  have hsto : ∀ y : Int, IntV y → ∃ w3, (Instr.entryStore t (.map (some b)) (goInt st) (.int .i64 y)).run Try.prog (setBlock w b (.map es1 clock1)) = .ok () w3 ∧ MapF S w3 b (n + 1) (upd f x y) ∧ (setBlock w b (.map es1 clock1)).grownBy w3 (some b) := fun y hy => by
    obtain ⟨es', clock', hr, hu⟩ := hstore (setBlock w b (.map es1 clock1)) (.int .i64 y) hb1
    obtain ⟨w', hr', ho, hg'⟩ := hown.update K ht hn hkey (val := .int .i64 y) (plainElem_int Try.underlying3 hy)
    rw [hu] at hr'
    simp at hr'
    subst hr'
    rw [hset] at hr
    refine ⟨_, hr, ⟨_, ho, fun z hz => ?_⟩, ⟨rfl, rfl, rfl, by simp [setBlock], fun i _ hi => ?_⟩⟩
    · by_cases e : z = x
      · subst e
        rw [upd_same]
        exact atKey_put_same (by rw [hD]; exact ⟨_, rfl⟩) (K.key hkey) _ _
      · rw [upd_other _ _ _ _ e, atKey_put_other (fun el => e (S.inj _ _ (K.inj (S.key z hz) (by rw [el]; exact hkey)))), h2 z hz]
    · rw [heap_setBlock_other hb _ (fun e => hi (by rw [e])), heap_setBlock_other hb _ (fun e => hi (by rw [e]))]
  refine ⟨_, st, _, hrun, ?_, hgrow _, hsto⟩
  have hu0 : ∀ z', setBlock w b (.map es1 clock1) = z' → (∃ es' clock', z' = setBlock w b (.map es' clock') ∧ (Instr.mapUpdate t (.map (some b)) (S.val x) (.int .i64 y0)).run Try.prog w = .ok () z') ∨ (es1 = es ∧ clock1 = clock) := by
    rintro z' rfl
    rcases S.law.find w hkey es.toList F.keys with ⟨g1, g2⟩ | ⟨j, e0, g1, g2, g3⟩
    · left
      have hr2 : (Instr.mapEntry t (.map (some b)) (S.val x)).run Try.prog w = .ok (.tuple #[.int .i64 0, goInt clock]) (setBlock w b (.map (es.push ⟨S.val x, .int .i64 0, clock⟩) (clock + 1))) := by
        simp [Instr.mapEntry, run_underlying ht, MapKept.run_getObj_map hb, S.law.check w false hkey, g1, MapKept.run_setObj_map _ hb, Result.andThen, setBlock]
      rw [hrun] at hr2
      simp only [Result.ok.injEq] at hr2
      obtain ⟨q1, q2⟩ := hr2
      have q3 : y0 = 0 := by
        injection q1 with q1
        have q4 : some (Value.int .i64 y0) = some (Value.int .i64 0) := congrArg (fun xs : Array Value => xs[0]?) q1
        injection q4 with q4
        injection q4
      rw [q2, q3]
      exact ⟨_, _, rfl, by simp [Instr.mapUpdate, run_underlying ht, MapKept.run_getObj_map hb, S.law.check w false hkey, g1, MapKept.run_setObj_map _ hb, Result.andThen, setBlock]⟩
    · right
      have hj : es[j]? = some e0 := by simpa using g2
      have hsame : es.modify j (fun e => { e with key := S.val x }) = es := by
        apply Array.ext'
        rw [Array.toList_modify, modify_eq_set _ _ _ _ g2]
        have : ({ e0 with key := S.val x } : MapEntry) = e0 := by rw [← g3]
        rw [this]
        exact set_self _ _ _ g2
      have hr2 : (Instr.mapEntry t (.map (some b)) (S.val x)).run Try.prog w = .ok (.tuple #[e0.val, goInt e0.born]) (setBlock w b (.map es clock)) := by
        simp [Instr.mapEntry, run_underlying ht, MapKept.run_getObj_map hb, S.law.check w false hkey, g1, hj, g3, S.law.stays w hkey, hsame, MapKept.run_setObj_map _ hb, Result.andThen, setBlock]
      rw [hrun] at hr2
      simp only [Result.ok.injEq] at hr2
      have q2 := congrArg (fun v : World => v.heap[b]?) hr2.2
      simp only [hb1, heap_setBlock_same hb] at q2
      simpa using q2
  rcases hu0 _ rfl with ⟨es', clock', hz', hup⟩ | ⟨rfl, rfl⟩
  · obtain ⟨w', hr', ho, _⟩ := hown.update K ht hn hkey (val := .int .i64 y0) (plainElem_int Try.underlying3 hy0)
    rw [hup] at hr'
    simp only [Result.ok.injEq, true_and] at hr'
    subst hr'
    refine ⟨_, ho, fun z hz => ?_⟩
    by_cases e : z = x
    · subst e
      rw [atKey_put_same (by rw [hD]; exact ⟨_, rfl⟩) (K.key hkey), hfy]
    · rw [atKey_put_other (fun el => e (S.inj _ _ (K.inj (S.key z hz) (by rw [el]; exact hkey)))), h2 z hz]
  · exact (MapF.of_block (S := S) ⟨D, hown, h2⟩ (by rw [hb1, hb])).mono (by omega)
end
end Go.Proofs.Ytcplogdaepmpnaa
