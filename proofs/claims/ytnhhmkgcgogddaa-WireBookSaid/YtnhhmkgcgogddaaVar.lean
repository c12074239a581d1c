/- Numbers in seven bits: the bytes, the writer's state, varint and the reference's Varint. -/
import Derived.Test.YtnhhmkgcgogddaaSum
import Derived.Test.YtnhhmkgcgogddaaRow
import Derived.Outline
namespace Go.Proofs.Ytnhhmkgcgogddaa
open Go.RowKit

/-- A number's bytes, seven bits each, the lowest ahead. -/
def varF (u : Nat) : List Int := if 127 < u then ((u % 128 + 128 : Nat) : Int) :: varF (u / 128) else [(u : Int)]
termination_by u
decreasing_by omega
theorem varF_more {u : Nat} (h : 127 < u) : varF u = ((u % 128 + 128 : Nat) : Int) :: varF (u / 128) := by
  conv => lhs; unfold varF
  rw [if_pos h]
theorem varF_last {u : Nat} (h : ¬ 127 < u) : varF u = [(u : Int)] := by
  conv => lhs; unfold varF
  rw [if_neg h]
theorem varF_len : ∀ (k u : Nat), u < 128 ^ (k + 1) → (varF u).length ≤ k + 1
  | k, u, h => by
    by_cases hu : 127 < u
    · rw [varF_more hu]
      cases k with
      | zero => omega
      | succ k =>
        have := varF_len k (u / 128) (by rw [Nat.div_lt_iff_lt_mul (by omega)]; rw [Nat.pow_succ] at h; exact h)
        simp; omega
    · rw [varF_last hu]; simp
theorem varF_ten {u : Nat} (h : u < 18446744073709551616) : (varF u).length ≤ 10 := varF_len 9 u (Nat.lt_trans h (by decide))
theorem varF_bytes : ∀ u : Nat, Bytes (varF u)
  | u => by
    by_cases hu : 127 < u
    · rw [varF_more hu]
      have ih := varF_bytes (u / 128)
      intro c hc
      rcases List.mem_cons.1 hc with rfl | h
      · omega
      · exact ih c h
    · rw [varF_last hu]
      intro c hc
      simp at hc; omega
termination_by u => u
decreasing_by omega

set_option maxRecDepth 100000 in
theorem or_128 (u : Nat) : bits .or .u8 ((u : Int) % 256) 128 = ((u % 128 + 128 : Nat) : Int) := by
  have h : ∀ m < 256, m ||| 128 = m % 128 + 128 := by decide
  rw [show ((u : Int) % 256) = ((u % 256 : Nat) : Int) by omega, show (128 : Int) = ((128 : Nat) : Int) from rfl, bits_nat_or .u8 _ _ (by simp [IntKind.bits]; omega) (by simp [IntKind.bits]), wrap_u8_nat _ (by rw [h _ (by omega)]; omega), h _ (by omega)]
  omega
theorem and_127 (u : Nat) (hu : u < 18446744073709551616) : bits .and .u64 (u : Int) 127 = ((u % 128 : Nat) : Int) := by
  rw [show (127 : Int) = ((127 : Nat) : Int) from rfl, bits_nat_and .u64 _ _ (by simp [IntKind.bits]; omega) (by simp [IntKind.bits]), show (127 : Nat) = 2 ^ 7 - 1 from rfl, Nat.and_two_pow_sub_one_eq_mod, wrap_u64_nat _ (by omega)]

/-! ### The writer's state: its block, and the row that it owns -/
def Wr (w : World) (g base : Nat) (v : Value) (bad : Bool) (zs : List Int) : Prop :=
  Blk w g 30 [v, .bool bad] ∧ Row .u8 5 w base v zs ∧ (∀ b, v.ownBlock = some b → b ≠ g)
/-- What a put may turn. -/
def Wt (g : Nat) (v : Value) : Nat → Prop := fun k => k = g ∨ v.ownBlock = some k

/-- A put's end. -/
def Puts (g base : Nat) (v : Value) (bad : Bool) (zs : List Int) (w : World) (e : Ending) (w' : World) : Prop :=
  e = .returned (.tuple #[]) ∧ ∃ v', Wr w' g base v' bad zs ∧ Keeps (Wt g v) w w' ∧ (∀ b, v'.ownBlock = some b → v.ownBlock = some b ∨ w.heap.size ≤ b)

theorem Wr.keeps {S : Nat → Prop} {w w' : World} {g base : Nat} {v : Value} {bad : Bool} {zs : List Int} (h : Wr w g base v bad zs) (hk : Keeps S w w') (hg : ¬ S g) (hv : ∀ b, v.ownBlock = some b → ¬ S b) : Wr w' g base v bad zs :=
  ⟨h.1.keeps hk hg, h.2.1.keeps hk hv, h.2.2⟩
theorem Wr.grew {w w' : World} {g base : Nat} {v : Value} {bad : Bool} {zs : List Int} (h : Wr w g base v bad zs) (hk : Keeps None w w') : Wr w' g base v bad zs := h.keeps hk id (fun _ _ f => f)

/-- One more step of one put. -/
theorem Keeps.wt {w a b : World} {g : Nat} {v v' : Value} (h : Keeps (Wt g v) w a) (hv : ∀ b, v'.ownBlock = some b → v.ownBlock = some b ∨ w.heap.size ≤ b) (hk : Keeps (Wt g v') a b) : Keeps (Wt g v) w b :=
  h.andThen hk fun i hi e => by
    rcases e with e | e
    · exact .inl e
    · rcases hv i e with h1 | h1
      · exact .inr h1
      · omega

/-- An append onto the writer's row, and its store. -/
theorem Wr.appended {w w1 : World} {g base : Nat} {v v' : Value} {bad : Bool} {zs ys : List Int} (h : Wr w g base v bad zs) (hr : Row .u8 5 w1 base v' ys) (hk : Keeps (OwnB v) w w1) (hl : v'.ownBlock = v.ownBlock ∨ v'.ownBlock = some w.heap.size) :
    Wr (w1.setCell ⟨g, 0, Option.none⟩ v') g base v' bad ys ∧ Keeps (Wt g v) w (w1.setCell ⟨g, 0, Option.none⟩ v') ∧ (∀ b, v'.ownBlock = some b → v.ownBlock = some b ∨ w.heap.size ≤ b) := by
  have hg := h.1.lt
  have hne : ∀ b, v'.ownBlock = some b → b ≠ g := by
    intro b hb
    rcases hl with e | e
    · exact h.2.2 b (e ▸ hb)
    · rw [hb] at e; cases e; omega
  refine ⟨⟨(h.1.keeps hk (fun e => h.2.2 g e rfl)).set 0 v', ?_, hne⟩, ?_, ?_⟩
  · refine hr.keeps (S := One g) ((Keeps.refl _ _).setCell _ _ (fun _ => rfl)) fun b hb e => hne b hb e
  · exact Keeps.setCell (hk.mono fun k _ e => Or.inr e) _ _ (fun _ => .inl rfl)
  · intro b hb
    rcases hl with e | e
    · exact .inl (e ▸ hb)
    · rw [hb] at e; cases e; exact .inr (Nat.le_refl _)

set_option maxRecDepth 100000 in
set_option maxHeartbeats 1600000 in
theorem varint_any (g base : Nat) (v : Value) (bad : Bool) (zs : List Int) (u : Nat) (w : World) (hw : Wr w g base v bad zs) (hb : base ≤ w.heap.size) (hu : u < 18446744073709551616) (hr : zs.length + 10 ≤ 140737488355328) :
    Calls Try.prog 60 #[.pointer (some ⟨g, 0, Option.none⟩), .int .u64 (u : Int)] w (Puts g base v bad (zs ++ varF u) w) := by
  obtain ⟨i0, hi, hz0, hz1, hz2⟩ := info_parts Try.infoU8
  have hten := varF_ten hu
  go_enter Try.func60, Try.ntmps60
  go_wp2
  go_loopw [1] (fun x wr => ∃ (m : Nat) (v1 : Value) (ys : List Int), x = .int .u64 (m : Int) ∧ m < 18446744073709551616 ∧ Wr wr g base v1 bad ys ∧ Hid (ys ++ varF m = zs ++ varF u) ∧ Keeps (Wt g v) w wr ∧ (∀ b, v1.ownBlock = some b → v.ownBlock = some b ∨ w.heap.size ≤ b)) (fun x _ => (intOf x).toNat)
  case atStart => exact ⟨u, v, zs, rfl, hu, hw, Lib.hid rfl, Keeps.refl _ _, fun b hb => .inl hb⟩
  case round =>
    clear hw
    obtain ⟨m, v1, ys, rfl, hm, hw, hE, hK, hN⟩ := hrel
    have hlen : ys.length + (varF m).length = zs.length + (varF u).length := by
      have := congrArg List.length hE.out
      simpa using this
    obtain ⟨A, c, rfl⟩ := hw.2.1.slice
    have c0 := hw.1.cell 0 _ rfl
    by_cases hlt : 127 < m
    · obtain ⟨x, hx⟩ : ∃ x : Int, x = ((m % 128 + 128 : Nat) : Int) := ⟨_, rfl⟩
      have e1 : bits .or .u8 ((m : Int) % 256) 128 = x := by rw [hx]; exact or_128 m
      have hE2 : Hid ((ys ++ [x]) ++ varF (m / 128) = zs ++ varF u) := Lib.hid (by rw [← hE.out, varF_more hlt, hx]; simp)
      have hl2 := congrArg List.length (varF_more hlt)
      rw [List.length_cons] at hl2
      clear hE hx
      have hBw : ∀ w', Blk w' g 30 [.slice A ys.length c, .bool bad] → w'.frozen? ⟨g, 0, Option.none⟩ = false ∧ ∃ u, w'.cell? ⟨g, 0, Option.none⟩ = some u := fun w' h => ⟨h.free 0, h.has 0 (by simp)⟩
      go_wp2_with (at_builtin; refine wpList_append_row _ rfl (.tmp 10) (.tmp 14) 23 rfl base 5 i0 (.int .u8 0) 1 1 Try.underlying23 hi hz0 hz1 hz2 rfl (by decide) _ ys.length _ rfl (hw.2.1.raw.alloc _) (some ⟨wr.heap.size, 0, Option.none⟩) 1 1 [Value.int .u8 x] rfl rfl (fun e => by cases e) (src_new wr 5 _ _ rfl) (ints_oneCell _ [x]) (by unfold maxLen; omega) (by omega) (by have := hK.size; simp; omega) ?_; intro v' w1 hown hk1 hloc; have hr1 : Row .u8 5 w1 base v' (ys ++ [x]) := Row.of_append rfl rfl hown; have hw' := hw.grew ((Keeps.refl None wr).alloc (.cells #[Value.int .u8 x] 5)); have hf := (hBw _ (hw'.1.keeps hk1 (fun e => hw.2.2 g e rfl))).1; obtain ⟨q, hq⟩ := (hBw _ (hw'.1.keeps hk1 (fun e => hw.2.2 g e rfl))).2; have H3 := Lib.hid (hw'.appended hr1 hk1 hloc); obtain ⟨A', c', ev⟩ := hr1.slice; obtain rfl : v' = .slice A' (ys.length + 1) c' := ev.trans (by simp); clear hr1 hw' hown ev)
      go_roundw
      case rel => 
        obtain ⟨a1, a2, a3⟩ := H3.out
        refine ⟨m / 128, _, ys ++ [x], by go_num, by omega, a1, hE2, ?_, ?_⟩
        · exact hK.wt hN (((Keeps.refl _ wr).alloc _).trans a2)
        · intro b hb'
          rcases a3 b hb' with h | h
          · exact hN b h
          · right; have := hK.size; simp at h; omega
      case measure => simp [intOf]; omega
    · have hE2 : Hid ((ys ++ [(m : Int)]) = zs ++ varF u) := Lib.hid (by rw [← hE.out, varF_last hlt])
      clear hE
      have hl2 : (varF m).length = 1 := congrArg List.length (varF_last hlt)
      have hBw : ∀ w', Blk w' g 30 [.slice A ys.length c, .bool bad] → w'.frozen? ⟨g, 0, Option.none⟩ = false ∧ ∃ u, w'.cell? ⟨g, 0, Option.none⟩ = some u := fun w' h => ⟨h.free 0, h.has 0 (by simp)⟩
      have e1 : (m : Int) % 256 = m := by omega
      go_wp2_with (at_builtin; refine wpList_append_row _ rfl (.tmp 24) (.tmp 27) 23 rfl base 5 i0 (.int .u8 0) 1 1 Try.underlying23 hi hz0 hz1 hz2 rfl (by decide) _ ys.length _ rfl (hw.2.1.raw.alloc _) (some ⟨wr.heap.size, 0, Option.none⟩) 1 1 [Value.int .u8 (m : Int)] rfl rfl (fun e => by cases e) (src_new wr 5 _ _ rfl) (ints_oneCell _ [(m : Int)]) (by unfold maxLen; omega) (by omega) (by have := hK.size; simp; omega) ?_; intro v' w1 hown hk1 hloc; have hr1 : Row .u8 5 w1 base v' (ys ++ [(m : Int)]) := Row.of_append rfl rfl hown; have hw' := hw.grew ((Keeps.refl None wr).alloc (.cells #[Value.int .u8 (m : Int)] 5)); have hf := (hBw _ (hw'.1.keeps hk1 (fun e => hw.2.2 g e rfl))).1; obtain ⟨q, hq⟩ := (hBw _ (hw'.1.keeps hk1 (fun e => hw.2.2 g e rfl))).2; have H3 := Lib.hid (hw'.appended hr1 hk1 hloc); obtain ⟨A', c', ev⟩ := hr1.slice; obtain rfl : v' = .slice A' (ys.length + 1) c' := ev.trans (by simp); clear hr1 hw' hown ev)
      go_end0
      obtain ⟨a1, a2, a3⟩ := H3.out
      refine ⟨rfl, _, hE2.out ▸ a1, ?_, ?_⟩
      · exact hK.wt hN (((Keeps.refl _ wr).alloc _).trans a2)
      · intro b hb'
        rcases a3 b hb' with h | h
        · exact hN b h
        · right; have := hK.size; simp at h; omega
end Go.Proofs.Ytnhhmkgcgogddaa
