/- The program's reader: its state; next. -/
import Derived.Test.YtnhhmkgcgogddaaWriter
import Derived.WalkLawsBesides
namespace Go.Proofs.Ytnhhmkgcgogddaa
open Go.RowKit
set_option linter.unusedVariables false

/-- The reader: it stands at 'at' in the bytes zs, which are its own. -/
structure Rd (w : World) (g base : Nat) (v : Value) (zs : List Int) (p : Nat) (err place : Int) : Prop where
  blk : Blk w g 87 [v, .int .i64 p, .int .i64 err, .int .i64 place]
  row : Row .u8 5 w base v zs
  hb : base ≤ g
  ne : ∀ b, v.ownBlock = some b → b ≠ g
  le : p ≤ zs.length

theorem Rd.keeps {S : Nat → Prop} {w w' : World} {g base : Nat} {v : Value} {zs : List Int} {p : Nat} {err place : Int} (h : Rd w g base v zs p err place) (hk : Keeps S w w') (hg : ¬ S g) (hv : ∀ b, v.ownBlock = some b → ¬ S b) : Rd w' g base v zs p err place :=
  ⟨h.blk.keeps hk hg, h.row.keeps hk hv, h.hb, h.ne, h.le⟩
theorem Rd.grew {w w' : World} {g base : Nat} {v : Value} {zs : List Int} {p : Nat} {err place : Int} (h : Rd w g base v zs p err place) (hk : Keeps None w w') : Rd w' g base v zs p err place := h.keeps hk id (fun _ _ f => f)
theorem Rd.drewN {w : World} {g base : Nat} {v : Value} {zs : List Int} {p : Nat} {err place : Int} (h : Rd w g base v zs p err place) (n : Nat) : Rd (w.drewN n) g base v zs p err place := h.grew ((Keeps.refl None w).drewN n)

def faultV (e : Int) : List PanicEntry := [{ v := .iface 98 (.agg #[.int .i64 e]), recovered := false }]

set_option maxRecDepth 100000 in
set_option maxHeartbeats 1600000 in
theorem next_cut (g base : Nat) (v : Value) (zs : List Int) (p : Nat) (err place : Int) (w : World) (h : Rd w g base v zs p err place) (hp : p = zs.length) (hr : zs.length ≤ 140737488351232) :
    Calls Try.prog 73 #[.pointer (some ⟨g, 0, Option.none⟩)] w fun e w' => e = .panicked (faultV 10) ∧ Drew w w' := by
  subst hp
  obtain ⟨A, cv, rfl, -, hN, -⟩ := h.row.open_
  have c0 := h.blk.cell 0 _ rfl
  have c1 := h.blk.cell 1 _ rfl
  go_enter Try.func73, Try.ntmps73
  go_wp2
  go_quiet (fail)
  go_wp2
  exact ⟨rfl, rfl, ⟨_, rfl⟩⟩

set_option maxRecDepth 100000 in
set_option maxHeartbeats 1600000 in
theorem next_byte (g base : Nat) (v : Value) (zs : List Int) (p : Nat) (c err place : Int) (w : World) (h : Rd w g base v zs p err place) (hp : zs[p]? = some c) (hr : zs.length ≤ 140737488351232) :
    Calls Try.prog 73 #[.pointer (some ⟨g, 0, Option.none⟩)] w fun e w' => e = .returned (.int .u8 c) ∧ Rd w' g base v zs (p + 1) err place ∧ Keeps (One g) w w' := by
  have hlt : p < zs.length := (List.getElem?_eq_some_iff.1 hp).1
  obtain ⟨A, cv, rfl, -, hN, -⟩ := h.row.open_
  obtain ⟨x, b, o, rfl, hc, hx⟩ := hN.get p hlt
  obtain rfl : x = c := by have := hx.out; rw [hp] at this; exact (Option.some.inj this).symm
  have c0 := h.blk.cell 0 _ rfl
  have c1 := h.blk.cell 1 _ rfl
  have f1 := h.blk.free 1
  obtain ⟨t1, t2⟩ := test_ne (show ¬ (p : Int) = (zs.length : Int) by omega)
  have HP := Lib.hid hp
  clear hp hx
  go_enter Try.func73, Try.ntmps73
  go_wp2
  go_quiet (fail)
  go_wp2
  have h2 : Rd ((w.drewN nq).setCell ⟨g, 1, Option.none⟩ (.int .i64 ((p : Int) + 1))) g base (.slice (some ⟨b, o, Option.none⟩) zs.length cv) zs (p + 1) err place :=
    ⟨by have := ((h.blk.grew ((Keeps.refl None w).drewN nq)).set 1 (.int .i64 ((p : Int) + 1))); simpa using this, (h.row.grew ((Keeps.refl None w).drewN nq)).keeps (S := One g) ((Keeps.refl _ _).setCell _ _ (fun _ => rfl)) (fun b e f => h.ne b e f), h.hb, h.ne, by omega⟩
  have k2 : Keeps (One g) w ((w.drewN nq).setCell ⟨g, 1, Option.none⟩ (.int .i64 ((p : Int) + 1))) := ((Keeps.refl _ _).drewN nq).setCell _ _ (fun _ => rfl)
  obtain ⟨w2, hw2⟩ : ∃ w2, w2 = (w.drewN nq).setCell ⟨g, 1, Option.none⟩ (.int .i64 ((p : Int) + 1)) := ⟨_, rfl⟩
  rw [← hw2] at h2 k2 ⊢
  clear hw2
  have d0 := h2.blk.cell 0 _ rfl
  have d1 := h2.blk.cell 1 _ rfl
  have d2 := k2.cell hc (fun e => h.ne b rfl e)
  rw [Int.natCast_add, Int.natCast_one] at d1
  have hi1 : (0 : Int) ≤ (p : Int) := by omega
  have hi2 : (p : Int) < (zs.length : Int) := by omega
  clear c0 c1 f1 t1 t2 hc
  go_quiet (fail)
  go_wp2
  go_ret
  exact ⟨rfl, h2.drewN _, k2.drewN _⟩
end Go.Proofs.Ytnhhmkgcgogddaa
