/- TallyTexts: the shortest text, the first of alike ones, of every list of texts. No condition. -/
import Derived.Test.YtghbgcmhahndkaaOpen
import Derived.Test.YtghbgcmhahndkaaKnown
import Derived.Deep.Strs
namespace Go.Proofs.Ytghbgcmhahndkaa.tallyTexts
open Go.ChangeShapes Go.WideShapes Go.ChangeAt Go.RowKit
open Go.ChangeMaps (open_string shut_string)
set_option linter.unusedVariables false

def LawEnd (w : World) (e : Ending) (w' : World) : Prop := e = .returned (.bool true) ∧ Below w.heap.size w w'

/-- A slice of texts. -/
def Strs (w : World) (A : Option Addr) (l : List ByteArray) : Prop :=
  ∀ j s, l[j]? = some s → ∃ b o, A = some ⟨b, o, Option.none⟩ ∧ w.cell? ⟨b, o + j, Option.none⟩ = some (.string s)
theorem Strs.grew {w w' : World} {A : Option Addr} {l : List ByteArray} (h : Strs w A l) (hk : Keeps None w w') : Strs w' A l := by
  intro j s hs
  obtain ⟨b, o, e, h1⟩ := h j s hs
  exact ⟨b, o, e, hk.cell h1 id⟩

/-- The place of the shortest of the first k, the first of alike ones. -/
def bi (l : List ByteArray) : Nat → Nat
  | 0 => 0
  | k + 1 => if (l.getD k ByteArray.empty).size < (l.getD (bi l k) ByteArray.empty).size then k else bi l k
theorem bi_le (l : List ByteArray) : ∀ k, bi l k ≤ k
  | 0 => Nat.le_refl _
  | k + 1 => by
    have := bi_le l k
    unfold bi
    split <;> omega
theorem bi_lt (l : List ByteArray) : ∀ k, 0 < k → bi l k < k
  | k + 1, _ => by
    have := bi_le l k
    unfold bi
    split <;> omega
theorem bi_one (l : List ByteArray) : bi l 1 = 0 := by
  unfold bi
  split
  · rfl
  · rfl

set_option maxRecDepth 100000 in
theorem short_any (a b : ByteArray) (w : World) : Calls Try.prog 40 #[.string a, .string b] w fun e w' => e = .returned (.bool (decide (b.size < a.size))) ∧ w' = w := by
  go_enter Try.func40, Try.ntmps40
  go_wp2
  go_ret
  exact ⟨ret_bool (by simp), rfl⟩

def bestT (l : List ByteArray) : ByteArray := if l.length = 0 then ByteArray.empty else l.getD (bi l l.length) ByteArray.empty

set_option maxRecDepth 100000 in
set_option maxHeartbeats 1600000 in
theorem bestT_any (A : Option Addr) (n cap : Nat) (l : List ByteArray) (w : World) (hA : Strs w A l) (hn : l.length = n) (hr : n ≤ 140737488351232) :
    Calls Try.prog 39 #[.func (.func 40) #[] #[], .slice A n cap] w (fun e w' => e = .returned (.tuple #[.string (bestT l), .bool (decide (0 < l.length))]) ∧ w' = w) := by
  subst hn
  go_enter Try.func39, Try.ntmps39
  go_wp2
  go_loopw [6, 11] (fun y i wr => ∃ (k : Nat) (B : ByteArray), k ≤ l.length ∧ i = .int .i64 k ∧ y = .string B ∧ Hid ((k = 0 → B = ByteArray.empty) ∧ (0 < k → B = l.getD (bi l k) ByteArray.empty)) ∧ wr = w) (fun _ i _ => l.length - (intOf i).toNat)
  case atStart => exact ⟨0, ByteArray.empty, Nat.zero_le _, rfl, rfl, Lib.hid ⟨fun _ => rfl, fun h => by omega⟩, rfl⟩
  case round =>
    obtain ⟨k, B, hk, rfl, rfl, hB, rfl⟩ := hrel
    by_cases hlt : k < l.length
    · obtain ⟨s, hs⟩ : ∃ s, l[k]? = some s := ⟨_, List.getElem?_eq_getElem hlt⟩
      obtain ⟨b, o, rfl, c0⟩ := hA k s hs
      have HS : Hid (l.getD k ByteArray.empty = s) := Lib.hid (by simp [List.getD, hs])
      clear hs
      by_cases h0 : k = 0
      · subst h0
        rw [Nat.add_zero] at c0
        go_wp2_with fail
        go_roundw
        case rel => exact ⟨1, s, by omega, by go_num, rfl, Lib.hid ⟨fun h => by omega, fun _ => by rw [bi_one]; exact HS.out.symm⟩, by first | trivial | rfl⟩
        case measure => simp [intOf]; omega
      · have hkb : ((k : Int) == 0) = false := by simpa using h0
        go_wp2_with fail
        refine (short_any B s _).mono ?_
        rintro e w1 ⟨rfl, rfl⟩
        by_cases hl : s.size < B.size
        · rw [decide_eq_true hl]
          have HL := Lib.hid hl
          clear hl
          go_wp2_with fail
          go_roundw
          case rel => exact ⟨k + 1, s, by omega, by go_num, rfl, Lib.hid ⟨fun h => by omega, fun _ => by unfold bi; rw [← hB.out.2 (by omega), HS.out, if_pos HL.out]; exact HS.out.symm⟩, by first | trivial | rfl⟩
          case measure => simp [intOf]; omega
        · rw [decide_eq_false hl]
          have HL := Lib.hid hl
          clear hl
          go_wp2_with fail
          go_roundw
          case rel => exact ⟨k + 1, B, by omega, by go_num, rfl, Lib.hid ⟨fun h => by omega, fun _ => by unfold bi; rw [← hB.out.2 (by omega), HS.out, if_neg HL.out]; exact hB.out.2 (by omega)⟩, by first | trivial | rfl⟩
          case measure => simp [intOf]; omega
    · obtain rfl : k = l.length := by omega
      go_wp2_with fail
      go_ret2
      refine ⟨?_, rfl⟩
      have : bestT l = B := by
        unfold bestT
        split
        · next h => exact (hB.out.1 h).symm
        · next h => exact (hB.out.2 (by omega)).symm
      rw [this]
      simp

set_option maxRecDepth 100000 in
set_option maxHeartbeats 3200000 in
theorem walk (A : Option Addr) (n cap : Nat) (l : List ByteArray) (w : World) (hA : Strs w A l) (hsz : ∀ s ∈ l, s.size ≤ maxLen) (hn : l.length = n) (hr : n ≤ 140737488351232) :
    Calls Try.prog 10 #[.slice A n cap] w (LawEnd w) := by
  subst hn
  have H := Lib.hid hsz
  clear hsz
  go_enter Try.func10, Try.ntmps10
  go_wp2_with fail
  refine (known_any w).mono ?_
  rintro e w1 ⟨rfl, hk1⟩
  have hA1 := hA.grew hk1
  clear hA
  go_wp2_with fail
  refine (bestT_any A l.length cap l w1 hA1 rfl hr).mono ?_
  rintro e w1' ⟨rfl, rfl⟩
  obtain ⟨B, hB⟩ : ∃ B, B = bestT l := ⟨_, rfl⟩
  rw [← hB]
  have HB := Lib.hid hB
  clear hB
  go_wp2_with fail
  go_loopw [5, 6] (fun b i wr => ∃ (k : Nat), k ≤ l.length + 1 ∧ 1 ≤ k ∧ (k = l.length + 1 → l.length = 0) ∧ i = .int .i64 k ∧ b = .int .i64 (bi l k : Nat) ∧ Drew w1' wr) (fun _ i _ => l.length - (intOf i).toNat)
  case atStart => exact ⟨1, by omega, by omega, by omega, rfl, by rw [bi_one]; rfl, Drew.refl _⟩
  case round =>
    obtain ⟨k, hk, hk1', hk0, rfl, rfl, ⟨⟨nd, rfl⟩⟩⟩ := hrel
    by_cases hlt : k < l.length
    · obtain ⟨s, hs⟩ : ∃ s, l[k]? = some s := ⟨_, List.getElem?_eq_getElem hlt⟩
      have hblt := bi_lt l k (by omega)
      obtain ⟨m, hm⟩ : ∃ m, m = bi l k := ⟨_, rfl⟩
      rw [← hm] at hblt
      obtain ⟨t, ht⟩ : ∃ t, l[m]? = some t := ⟨_, List.getElem?_eq_getElem (by omega)⟩
      obtain ⟨b, o, rfl, c0⟩ := hA1 k s hs
      obtain ⟨_, _, e1, c1⟩ := hA1 m t ht
      cases e1
      have HS : Hid (l.getD k ByteArray.empty = s ∧ l.getD m ByteArray.empty = t) := Lib.hid ⟨by simp [List.getD, hs], by simp [List.getD, ht]⟩
      have HM := Lib.hid hm
      have hml : m < l.length := by omega
      rw [← hm]
      clear hs ht hm hk0
      by_cases hl : s.size < t.size
      · have HL := Lib.hid hl
        have hlb : ((s.size : Nat) : Int) < (t.size : Int) := by omega
        clear hl
        go_wp2_with fail
        go_quiet (fail)
        go_wp2_with fail
        go_roundw
        case rel => exact ⟨k + 1, by omega, by omega, by omega, by go_num, by unfold bi; rw [← HM.out, HS.out.1, HS.out.2, if_pos HL.out], by first | exact ⟨_, rfl⟩ | exact (Drew.of w1' nd).more _⟩
        case measure => simp [intOf]; omega
      · have HL := Lib.hid hl
        have hlb : ((t.size : Nat) : Int) ≤ (s.size : Int) := by omega
        clear hl
        go_wp2_with fail
        go_quiet (fail)
        go_wp2_with fail
        go_roundw
        case rel => exact ⟨k + 1, by omega, by omega, by omega, by go_num, by unfold bi; rw [← HM.out, HS.out.1, HS.out.2, if_neg HL.out], by first | exact ⟨_, rfl⟩ | exact (Drew.of w1' nd).more _⟩
        case measure => simp [intOf]; omega
    · by_cases h0 : l.length = 0
      · have hBe : B = ByteArray.empty := by rw [HB.out]; unfold bestT; rw [if_pos h0]
        subst hBe
        have hz : ((l.length : Nat) : Int) = 0 := by omega
        go_wp2_with fail
        go_ret
        exact ⟨ret_bool (by simp), (hk1.trans ((Drew.of w1' nd).keeps None)).to_below⟩
      · obtain rfl : k = l.length := by omega
        have hblt := bi_lt l l.length (by omega)
        obtain ⟨m, hm⟩ : ∃ m, m = bi l l.length := ⟨_, rfl⟩
        rw [← hm] at hblt
        obtain ⟨t, ht⟩ : ∃ t, l[m]? = some t := ⟨_, List.getElem?_eq_getElem hblt⟩
        obtain ⟨b, o, rfl, c0⟩ := hA1 m t ht
        have hBt : B = t := by
          rw [HB.out]; unfold bestT; rw [if_neg h0, ← hm]; simp [List.getD, ht]
        subst hBt
        rw [← hm]
        have h0b : ((l.length : Int) == 0) = false := by simpa using h0
        have hm2 : (m : Int) < (l.length : Int) := by omega
        clear hm ht HB hk0
        go_wp2_with fail
        go_ret
        exact ⟨ret_bool (by simp), (hk1.trans ((Drew.of w1' nd).keeps None)).to_below⟩

theorem open_texts {H : Type} {enc : TypeId × Value → H} {W : World} {base : Nat} {spare : Nat → Bool} {held : Bool} {a : Option Addr} {len cap : Nat} {d : DataW H} {ps : List MemPlace} {ts : List TypeId} {ds : List (DataW H)} {j : Nat}
    (hsz : (DataW.weightsEach Try.prog ts ds).all (· ≤ reachBytes) = true) (ht : ts[j]? = some 73) (hd : ds[j]? = some d)
    (h : DataW.Trod enc Try.prog W base spare held 73 (.slice a len cap) d ps) :
    ∃ l : List ByteArray, l.length = len ∧ Strs W a l ∧ (∀ s ∈ l, s.size ≤ maxLen) ∧ len ≤ 140737488351232 := by
  obtain ⟨fuel, hf⟩ := h
  rcases Deep.open_strs Try.underlying73 Try.underlying9 (by kernel_rfl) hf with ⟨hcs, _⟩ | ⟨x, l, c, m, Sx, hcs, _, hl, hm, hmm, hx, hel⟩
  · simp [Value.cells] at hcs
    obtain ⟨rfl, rfl, rfl⟩ := hcs
    exact ⟨[], rfl, fun j x hx => by simp at hx, by simp, by omega⟩
  · simp [Value.cells] at hcs
    obtain ⟨rfl, rfl, rfl⟩ := hcs
    obtain ⟨hx, _⟩ := Prod.mk.inj hx
    subst hx
    have z := sized_slice hsz ht hd Try.underlying73
    have hB : Try.prog.bytesOf 9 = 16 := by kernel_rfl
    rw [hB] at z
    have h3 : reachBytes = 140737488351232 := rfl
    have hlm : len ≤ m := by rw [hmm]; split <;> omega
    refine ⟨(List.range len).map Sx, by simp, ?_, ?_, by simp at z; omega⟩
    · intro j s hs
      have hj : j < len := by have := (List.getElem?_eq_some_iff.1 hs).1; simpa using this
      have e1 : Sx j = s := by simpa [hj] using hs
      have hc := (hel j (by omega)).1
      obtain ⟨b, off, spot⟩ := x
      have hspot : spot = Option.none := by simpa [Addr.add] using World.cell?_spot (hel 0 (by omega)).1
      subst hspot
      rw [Addr.add_lit] at hc
      exact ⟨b, off, rfl, by rw [hc, e1]⟩
    · intro s hs
      obtain ⟨j, hj, rfl⟩ := List.mem_map.1 hs
      exact (hel j (by have := List.mem_range.1 hj; omega)).2

set_option maxRecDepth 100000 in
theorem lifted (os : Os) (started : os.Started) (H : Type) (enc : TypeId × Value → H) :
    ReturnsInHanded {} Try.checked os 10 .any (Rows.tallyTextsSpec.pre6 enc Try.prog Try.f10 Rows.tallyTextsRow.domain false) (Rows.tallyTextsSpec.post enc Try.prog Try.f10 false true false false) := by
  refine returnsInHanded_of_change_sized (C := Try.checked) Try.own started (by kernel_rfl) Try.func10
    (ChangeSpec.witness6 (enc := enc) (C := Try.checked) false ⟨#[], #[.slice none 0 0], []⟩ 8 (by kernel_rfl) (by kernel_rfl) (by kernel_rfl) (by kernel_rfl)) ?_
  intro W base args ds gs before hval0 hW hcnd hsz0 _
  have hsz : (DataW.weightsEach Try.prog (Try.f10.params.toList ++ Rows.tallyTextsSpec.plain.varTypes Try.prog) (ds ++ gs)).all (· ≤ reachBytes) = true := hsz0
  have hval : ∀ (j : Nat) t v, Try.f10.params[j]? = some t → args[j]? = some v → Value.okWide Try.prog W .any base t v := hval0
  have hW' := hW
  obtain ⟨p, q, hA0, hV, rfl, hfz, hnd⟩ := hW
  have hA : DataW.TrodAll enc Try.prog W 0 (fun _ => true) true Try.f10.params.toList args.toList ds p := hA0
  rw [Try.params10] at hA hval hsz
  obtain ⟨v0, vs0, d0, ds0, p0, q0, hargs, rfl, rfl, h0, r0⟩ := trodAll_cons hA
  obtain ⟨rfl, rfl, rfl⟩ := trodAll_nil r0
  obtain rfl : args = #[v0] := by cases args; simp_all
  obtain ⟨rfl, rfl⟩ := trodVars_none hV
  have k0 := h0
  have lt0 : ∀ x ∈ p0, x.block < W.heap.size := by obtain ⟨m, hm⟩ := k0; exact DataW.trod_lt m _ _ _ hm
  obtain ⟨a0, len0, cap0, rfl⟩ := okWide_slice Try.underlying73 (hval 0 73 v0 rfl rfl)
  obtain ⟨z0, n0, w0, y0⟩ := open_texts hsz (j := 0) rfl rfl h0
  clear hA0 hval0 hsz0 hsz
  refine (walk a0 len0 cap0 z0 W w0 y0.1 n0 y0.2).mono fun e W' ⟨he, bel⟩ => ?_
  subst he
  exact ⟨_, rfl, _, _, _, [], _, [], hW', trodAll_mk1 (shut_bool Try.underlying4 _), (trodAll_cons_mk (Below.trod Try.laidOut (by kernel_rfl) (of_decide_eq_true (by kernel_rfl)) k0 bel lt0) trodAll_mk0), rfl, bel.frame _, fun h => by cases h⟩

theorem over : Rows.tallyTextsRow.holds Try.pinned (OpenSpec.ofChange Rows.tallyTextsSpec) :=
  OpenClaim.holds_of_wide 10 Try.f10 rfl rfl rfl rfl rfl rfl rfl ⟨rfl, rfl, rfl, rfl, rfl⟩ rfl rfl rfl rfl rfl (by kernel_rfl) Try.func10 (by kernel_rfl)
    (of_decide_eq_true (by kernel_rfl)) (by unfold Func.isWrapper; first | (rw [if_pos (by decide +kernel)]; kernel_rfl) | (rw [if_neg (by decide +kernel)]; exact ⟨rfl, rfl⟩))
    (fun os started H enc _ => lifted os started H enc)
end Go.Proofs.Ytghbgcmhahndkaa.tallyTexts
namespace Go.Proofs.Ytghbgcmhahndkaa
/-- The row, under a short name, for the claim. -/
theorem tallyTexts_holds : Rows.TallyTextsSaid := tallyTexts.over
end Go.Proofs.Ytghbgcmhahndkaa
