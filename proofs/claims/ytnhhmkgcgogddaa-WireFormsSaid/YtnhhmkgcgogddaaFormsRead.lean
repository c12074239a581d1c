/- cairnlaw1.read, whatever the kind: what it leaves has one form. -/
import Derived.Test.YtnhhmkgcgogddaaFormsLaw
import Derived.Test.YtnhhmkgcgogddaaRight
namespace Go.Proofs.Ytnhhmkgcgogddaa
open Go.RowKit
set_option linter.unusedVariables false

structure FormStep (zs : List Int) (s : St) (kind n : Int) (bs : List Int) (s' : St) : Prop where
  form : Form zs s (itemF kind n bs) s'
  bytes : Bytes bs
  range : -9223372036854775808 ≤ n ∧ n ≤ 9223372036854775807
  pos : kind = 1 → 0 ≤ n
  len : bs.length ≤ zs.length
  blen : bs.length ≤ (itemF kind n bs).length
  fit : s'.err = 0 → s.p + (itemF kind n bs).length ≤ zs.length

theorem Form.fit {zs : List Int} {s s' : St} {o : List Int} (h : Form zs s o s') (h0 : s'.err = 0) (hp : s.p ≤ zs.length) : s.p + o.length ≤ zs.length := by
  have e := congrArg List.length (h.good h0).2
  have := h.le
  rw [List.length_append, List.length_take, List.length_take] at e
  omega

theorem cread_any (g base : Nat) (v : Value) (zs : List Int) (s : St) (kind : Int) (w : World) (h : s.at w g base v zs) (hr : zs.length ≤ 140737488351232) (hb : Bytes zs) (hk : 1 ≤ kind ∧ kind ≤ 4) :
    Calls Try.prog 33 #[.pointer (some ⟨g, 0, Option.none⟩), .int .i64 kind] w (fun e w' => ∃ n bs s', FormStep zs s kind n bs s' ∧ ReadEnd kind n bs s' g base v zs w e w') := by
  have hp : s.p ≤ zs.length := Rd.le h
  have hnil : Bytes [] := fun c hc => by cases hc
  rcases (by omega : kind = 1 ∨ kind = 2 ∨ kind = 3 ∨ kind = 4) with rfl | rfl | rfl | rfl
  · obtain ⟨f, n0, n1⟩ := num_form (s := s) hb hp
    have e : itemF 1 (numStep zs s).1 [] = varF (numStep zs s).1.toNat := by unfold itemF; simp
    exact (cread_num g base v zs s w h hr hb).mono fun e' w' hh => ⟨_, _, _, ⟨by rw [e]; exact f, hnil, ⟨by omega, n1⟩, fun _ => n0, by simp, by simp, fun h0 => by rw [e]; exact f.fit h0 hp⟩, hh⟩
  · obtain ⟨f, n0, n1⟩ := int_form (s := s) hb hp
    have e : itemF 2 (intStep zs s).1 [] = varF (zigF (intStep zs s).1) := by unfold itemF; simp
    exact (cread_int g base v zs s w h hr hb).mono fun e' w' hh => ⟨_, _, _, ⟨by rw [e]; exact f, hnil, ⟨n0, n1⟩, fun h0 => by omega, by simp, by simp, fun h0 => by rw [e]; exact f.fit h0 hp⟩, hh⟩
  · obtain ⟨f, fb, fl, _⟩ := byt_form (s := s) hb hp
    have e : itemF 3 0 (bytStep zs s).1 = varF (bytStep zs s).1.length ++ (bytStep zs s).1 := by unfold itemF; simp
    exact (cread_byt g base v zs s w h hr hb).mono fun e' w' hh => ⟨_, _, _, ⟨by rw [e]; exact f, fb, ⟨by omega, by omega⟩, fun h0 => by omega, fl, by rw [e, List.length_append]; omega, fun h0 => by rw [e]; exact f.fit h0 hp⟩, hh⟩
  · obtain ⟨f, fb, fl, _⟩ := byt_form (s := s) hb hp
    have e : itemF 4 0 (bytStep zs s).1 = varF (bytStep zs s).1.length ++ (bytStep zs s).1 := by unfold itemF; simp
    exact (cread_txt g base v zs s w h hr hb).mono fun e' w' hh => ⟨_, _, _, ⟨by rw [e]; exact f, fb, ⟨by omega, by omega⟩, fun h0 => by omega, fl, by rw [e, List.length_append]; omega, fun h0 => by rw [e]; exact f.fit h0 hp⟩, hh⟩

/-- The writer behind k reads: its bytes are those that were read, as long as there is no fault. -/
structure Told (zs : List Int) (k : Nat) (s : St) (z : List Int) : Prop where
  le : s.p ≤ zs.length
  ok : s.err = 0 → z = zs.take s.p
  len : z.length ≤ zs.length + k
theorem Told.next {zs : List Int} {k : Nat} {s s' : St} {z : List Int} {kind n : Int} {bs : List Int} (h : Told zs k s z) (f : FormStep zs s kind n bs s') : Told zs (k + 1) s' (z ++ itemF kind n bs) ∧ z.length + bs.length ≤ zs.length + k + 1 := by
  by_cases h0 : s'.err = 0
  · obtain ⟨h1, h2⟩ := f.form.good h0
    have e := h.ok h1
    have hf := f.fit h0
    have hl : z.length ≤ s.p := by rw [e, List.length_take]; omega
    have hb := f.blen
    refine ⟨⟨f.form.le, fun _ => by rw [e, h2], by rw [List.length_append]; omega⟩, by omega⟩
  · have h1 := f.form.bad h0
    have hb := f.blen
    have hl := h.len
    exact ⟨⟨f.form.le, fun h2 => (h0 h2).elim, by rw [List.length_append]; omega⟩, by omega⟩
end Go.Proofs.Ytnhhmkgcgogddaa
