/- Sealing: the contracts of put, four, number, Clone, Seal, Open, and of the reference's, by plain functions on lists of bytes. -/
import Derived.Test.YtnhhmkgcgogddaaSum
import Derived.Test.YtnhhmkgcgogddaaRow
import Derived.Outline
import Derived.Lib.SliceRun
namespace Go.Proofs.Ytnhhmkgcgogddaa
open Go.RowKit

/-- A number's four bytes. -/
def fourF (n : Nat) : List Int := [(n : Int) % 256, (n : Int) / 256 % 256, (n : Int) / 65536 % 256, (n : Int) / 16777216 % 256]
theorem fourF_bytes (n : Nat) : Bytes (fourF n) := by
  intro c hc
  simp only [fourF, List.mem_cons, List.not_mem_nil, or_false] at hc
  omega

def PutEnd (base : Nat) (v : Value) (zs : List Int) (n : Nat) (w : World) (e : Ending) (w' : World) : Prop :=
  ∃ v', e = .returned v' ∧ Row .u8 5 w' base v' (zs ++ fourF n) ∧ Keeps (OwnB v) w w' ∧ (∀ g, v'.ownBlock = some g → v.ownBlock = some g ∨ w.heap.size ≤ g)

set_option maxRecDepth 100000 in
set_option maxHeartbeats 1600000 in
theorem put_any (base : Nat) (v : Value) (zs : List Int) (n : Nat) (w : World) (hv : Row .u8 5 w base v zs) (hb : base ≤ w.heap.size) (hr : zs.length + 4 ≤ 140737488355328) :
    Calls Try.prog 46 #[v, .int .i64 (n : Int)] w (PutEnd base v zs n w) := by
  obtain ⟨i0, hi, hz0, hz1, hz2⟩ := info_parts Try.infoU8
  obtain ⟨A, c, rfl⟩ := hv.slice
  go_enter Try.func46, Try.ntmps46
  go_wp2_with (at_builtin; refine wpList_append_row _ rfl (.tmp 5) (.tmp 17) 23 rfl base 5 i0 (.int .u8 0) 1 1 Try.underlying23 hi hz0 hz1 hz2 rfl (by decide) _ zs.length _ rfl (hv.raw.alloc _) (some ⟨w.heap.size, 0, Option.none⟩) 4 4 ((fourF n).map (Value.int .u8)) rfl rfl (fun e => by cases e) (src_new w 5 _ _ rfl) (ints_oneCell _ _) (by unfold maxLen; omega) (by omega) (by simp; omega) ?_; intro v' w1 hown hK hloc)
  go_ret
  refine ⟨v', rfl, Row.of_append rfl rfl hown, ((Keeps.refl _ w).alloc _).trans hK, ?_⟩
  intro g hg
  rcases hloc with h | h
  · exact .inl (h ▸ hg)
  · rw [hg] at h; simp at h; right; omega

/-- The number of four bytes. -/
def numF (b : List Int) : Nat := (b.getD 0 0 + b.getD 1 0 * 256 + b.getD 2 0 * 65536 + b.getD 3 0 * 16777216).toNat

set_option maxRecDepth 100000 in
set_option maxHeartbeats 1600000 in
theorem number_any (A : Option Addr) (n cap : Nat) (zs : List Int) (w : World) (hA : Nums .u8 w A zs) (hb : Bytes zs) (hn : zs.length = n) (h4 : 4 ≤ n) (hr : n ≤ 140737488351232) :
    Calls Try.prog 49 #[.slice A n cap] w fun e w' => e = .returned (.int .i64 (numF zs)) ∧ Drew w w' := by
  obtain ⟨x0, b, o, rfl, c0, hz0⟩ := hA.get 0 (by omega)
  obtain ⟨x1, _, _, e1, c1, hz1⟩ := hA.get 1 (by omega)
  cases e1
  obtain ⟨x2, _, _, e1, c2, hz2⟩ := hA.get 2 (by omega)
  cases e1
  obtain ⟨x3, _, _, e1, c3, hz3⟩ := hA.get 3 (by omega)
  cases e1
  obtain ⟨l0, u0⟩ := hb.at hz0.out
  obtain ⟨l1, u1⟩ := hb.at hz1.out
  obtain ⟨l2, u2⟩ := hb.at hz2.out
  obtain ⟨l3, u3⟩ := hb.at hz3.out
  have h0' : (0 : Int) < (n : Int) := by omega
  have h1' : (1 : Int) < (n : Int) := by omega
  have h2' : (2 : Int) < (n : Int) := by omega
  have h3' : (3 : Int) < (n : Int) := by omega
  have h0n : 0 < n := by omega
  rw [Nat.add_zero] at c0
  clear hA
  go_enter Try.func49, Try.ntmps49
  go_wp2
  go_quiet (fail)
  go_wp2
  go_ret
  refine ⟨ret_int ?_, ⟨_, rfl⟩⟩
  have e1 := bits_or_i64 8 x0 x1 l0 (by omega) l1 (by omega)
  have e2 := bits_or_i64 16 (x0 + x1 * 256) x2 (by omega) (by omega) l2 (by omega)
  have e3 := bits_or_i64 24 (x0 + x1 * 256 + x2 * 65536) x3 (by omega) (by omega) l3 (by omega)
  simp only [Int.reducePow] at e1 e2 e3
  rw [e1, e2, e3]
  unfold numF
  have g0 := hz0.out
  have g1 := hz1.out
  have g2 := hz2.out
  have g3 := hz3.out
  simp only [List.getD, g0, g1, g2, g3, Option.getD_some]
  omega

set_option maxRecDepth 100000 in
set_option maxHeartbeats 1600000 in
theorem refnumber_any (A : Option Addr) (n cap : Nat) (zs : List Int) (w : World) (hA : Nums .u8 w A zs) (hb : Bytes zs) (hn : zs.length = n) (h4 : 4 ≤ n) (hr : n ≤ 140737488351232) :
    Calls Try.prog 61 #[.slice A n cap] w fun e w' => e = .returned (.int .i64 (numF zs)) ∧ Drew w w' := by
  obtain ⟨x0, b, o, rfl, c0, hz0⟩ := hA.get 0 (by omega)
  obtain ⟨x1, _, _, e1, c1, hz1⟩ := hA.get 1 (by omega)
  cases e1
  obtain ⟨x2, _, _, e1, c2, hz2⟩ := hA.get 2 (by omega)
  cases e1
  obtain ⟨x3, _, _, e1, c3, hz3⟩ := hA.get 3 (by omega)
  cases e1
  obtain ⟨l0, u0⟩ := hb.at hz0.out
  obtain ⟨l1, u1⟩ := hb.at hz1.out
  obtain ⟨l2, u2⟩ := hb.at hz2.out
  obtain ⟨l3, u3⟩ := hb.at hz3.out
  have h0' : (0 : Int) < (n : Int) := by omega
  have h1' : (1 : Int) < (n : Int) := by omega
  have h2' : (2 : Int) < (n : Int) := by omega
  have h3' : (3 : Int) < (n : Int) := by omega
  have h0n : 0 < n := by omega
  rw [Nat.add_zero] at c0
  clear hA
  go_enter Try.func61, Try.ntmps61
  go_wp2
  go_quiet (fail)
  go_wp2
  go_ret
  refine ⟨ret_int ?_, ⟨_, rfl⟩⟩
  unfold numF
  have g0 := hz0.out
  have g1 := hz1.out
  have g2 := hz2.out
  have g3 := hz3.out
  simp only [List.getD, g0, g1, g2, g3, Option.getD_some]
  omega

def FourEnd (n : Nat) (w : World) (e : Ending) (w' : World) : Prop :=
  e = .returned (.slice (some ⟨w.heap.size, 0, Option.none⟩) 4 4) ∧ Blk w' w.heap.size 5 ((fourF n).map (Value.int .u8)) ∧ Keeps None w w'

set_option maxRecDepth 100000 in
set_option maxHeartbeats 1600000 in
theorem four_any (n : Nat) (w : World) : Calls Try.prog 26 #[.int .i64 (n : Int)] w (FourEnd n w) := by
  go_enter Try.func26, Try.ntmps26
  go_wp2
  go_ret
  exact ⟨rfl, Blk.new w _ ((fourF n).map (Value.int .u8)), (Keeps.refl _ w).alloc _⟩

set_option maxRecDepth 100000 in
set_option maxHeartbeats 1600000 in
theorem reffour_any (n : Nat) (w : World) : Calls Try.prog 47 #[.int .i64 (n : Int)] w (FourEnd n w) := by
  go_enter Try.func47, Try.ntmps47
  go_wp2
  go_ret
  exact ⟨rfl, Blk.new w _ ((fourF n).map (Value.int .u8)), (Keeps.refl _ w).alloc _⟩

/-- The rest that is not below 0. -/
def roundF (a n : Int) : Int := if a.tmod n < 0 then a.tmod n + n else a.tmod n
theorem roundF_lt (a n : Int) (hn : 0 < n) : 0 ≤ roundF a n ∧ roundF a n < n := by
  unfold roundF
  have h1 := Int.tmod_lt_of_pos a hn
  have h2 := Int.lt_tmod_of_pos a hn
  split <;> omega

set_option maxRecDepth 100000 in
set_option maxHeartbeats 1600000 in
theorem round_any (a n : Int) (w : World) (hn : 0 < n) (hn2 : n ≤ 9223372036854775807) : Calls Try.prog 24 #[.int .i64 a, .int .i64 n] w fun e w' => e = .returned (.int .i64 (roundF a n)) ∧ w' = w := by
  have h1 := Int.tmod_lt_of_pos a hn
  have h2 := Int.lt_tmod_of_pos a hn
  have hne : ¬ n = 0 := by omega
  have hneb : (n == 0) = false := by simpa using hne
  by_cases hlt : a.tmod n < 0
  · have e1 : roundF a n = a.tmod n + n := if_pos hlt
    have E := Lib.hid e1
    clear e1
    go_enter Try.func24, Try.ntmps24
    go_wp2
    go_ret
    exact ⟨ret_int (by rw [E.out]; try rfl), rfl⟩
  · have e1 : roundF a n = a.tmod n := if_neg hlt
    have E := Lib.hid e1
    clear e1
    go_enter Try.func24, Try.ntmps24
    go_wp2
    go_ret
    exact ⟨ret_int (by rw [E.out]; try rfl), rfl⟩

/-- A copy of its own; nil of nil. -/
def CloneEnd (zs : List Int) (w : World) (e : Ending) (w' : World) : Prop := ∃ v, e = .returned v ∧ Row .u8 5 w' w.heap.size v zs ∧ Keeps None w w'

set_option maxRecDepth 100000 in
set_option maxHeartbeats 1600000 in
theorem clone_any (A : Option Addr) (n cap : Nat) (zs : List Int) (w : World) (hA : Nums .u8 w A zs) (hn : zs.length = n) (hr : n ≤ 140737488351232) :
    Calls Try.prog 50 #[.slice A n cap] w (CloneEnd zs w) := by
  obtain ⟨i0, hi, hz0, hz1, hz2⟩ := info_parts Try.infoU8
  have qT : ∀ (w : World) (a : Option Addr) (n c n' c' : Nat), (binOp .eql 23 (.slice a n c) (.slice none n' c')).run Try.prog w = .ok (.bool a.isNone) w := fun w a n c n' c' => Lib.run_eql_slice_nil w _ _ a n c n' c' Try.underlying23
  subst hn
  cases A with
  | none =>
    go_enter Try.func50, Try.ntmps50
    go_wp2
    have h0 : zs = [] := by
      cases zs with
      | nil => rfl
      | cons y ys => obtain ⟨b, o, e, _⟩ := hA 0 (by simp); cases e
    subst h0
    go_ret
    exact ⟨_, rfl, Row.nil _ _ _ _, Keeps.refl _ _⟩
  | some ad =>
    have hrow : Row .u8 5 (w.alloc (.cells #[] 5)) w.heap.size (.slice (some ⟨w.heap.size, 0, Option.none⟩) 0 0) [] := Row.of_blk (zs := []) (Blk.new w 5 []) (Nat.le_refl _) (by simp)
    have hA' : Nums .u8 (w.alloc (.cells #[] 5)) (some ad) zs := hA.grew ((Keeps.refl _ w).alloc _)
    have HR := Lib.hid hrow
    have HA := Lib.hid hA'
    clear hrow hA'
    go_enter Try.func50, Try.ntmps50
    go_wp2_with (at_builtin; refine wpList_append_row _ rfl (.tmp 5) (.tmp 6) 23 rfl w.heap.size 5 i0 (.int .u8 0) 1 1 Try.underlying23 hi hz0 hz1 hz2 rfl (by decide) _ 0 _ rfl HR.out.raw (some ad) zs.length cap (zs.map (Value.int .u8)) rfl (by rw [List.length_map, Nat.mul_one]) (fun e => by cases e) HA.out.src (ints_oneCell _ _) (by unfold maxLen; omega) (by omega) (by simp) ?_; intro v' w1 hown hK _)
    go_ret
    refine ⟨v', rfl, Row.of_append (zs := []) rfl rfl hown, ((Keeps.refl _ w).alloc _).andThen hK ?_⟩
    intro i hi e
    have := OwnB.is e
    omega

/-! ### Seal -/
def sealF (body : List Int) : List Int :=
  if 131072 < body.length then [] else
  (fourF body.length ++ fourF (Crc.crc (fourF body.length)) ++ body) ++ fourF (Crc.crc (fourF body.length ++ fourF (Crc.crc (fourF body.length)) ++ body))

def SealEnd (zs : List Int) (w : World) (e : Ending) (w' : World) : Prop := ∃ v, e = .returned v ∧ Row .u8 5 w' w.heap.size v (sealF zs) ∧ Keeps None w w'

theorem Bytes.append {xs ys : List Int} (h : Bytes xs) (h' : Bytes ys) : Bytes (xs ++ ys) := fun c hc => by
  rcases List.mem_append.1 hc with h1 | h1
  · exact h c h1
  · exact h' c h1
theorem fourF_len (n : Nat) : (fourF n).length = 4 := rfl

set_option maxRecDepth 100000 in
set_option maxHeartbeats 1600000 in
theorem seal_any (A : Option Addr) (n cap : Nat) (zs : List Int) (w : World) (hA : Nums .u8 w A zs) (hb : Bytes zs) (hn : zs.length = n) (hnil : A = Option.none → cap = 0) :
    Calls Try.prog 20 #[.slice A n cap] w (SealEnd zs w) := by
  obtain ⟨i0, hi, hz0, hz1, hz2⟩ := info_parts Try.infoU8
  subst hn
  by_cases hlong : 131072 < zs.length
  · go_enter Try.func20, Try.ntmps20
    go_wp2
    go_ret
    exact ⟨_, rfl, by unfold sealF; rw [if_pos hlong]; exact Row.nil _ _ _ _, Keeps.refl _ _⟩
  · go_enter Try.func20, Try.ntmps20
    go_wp2_with (at_make; refine wpList_make_own _ rfl _ _ 23 rfl w.heap.size 5 i0 (.int .u8 0) 1 Try.underlying23 hi hz0 hz1 _ _ _ (zs.length + 12) rfl rfl (by omega) (by rw [hz2]; omega) (by unfold maxLen; omega) (by omega) ?_; intro w1 hown1 hgrow1)
    have hr1 : Row .u8 5 w1 w.heap.size (.slice (some ⟨w.heap.size, 0, Option.none⟩) 0 (zs.length + 12)) [] := hown1
    have hK1 : Keeps None w w1 := (Keeps.refl _ _).grown hgrow1 (by simp)
    clear hown1 hgrow1
    refine (put_any w.heap.size _ [] zs.length w1 hr1 hK1.size (by simp)).mono ?_
    rintro e w2 ⟨v2, rfl, hr2, hk2, -⟩
    obtain ⟨h1, eh1⟩ : ∃ l, l = fourF zs.length := ⟨_, rfl⟩
    have hr2 : Row .u8 5 w2 w.heap.size v2 h1 := hr2.cast (by rw [eh1]; rfl)
    have hK2 := hK1.own hr1 (Nat.le_refl _) hk2
    have bh1 : Bytes h1 := by rw [eh1]; exact fourF_bytes _
    have lh1 : h1.length ≤ 4 := by rw [eh1]; exact Nat.le_refl _
    have HE1 := Lib.hid eh1
    clear eh1 hr1 hk2 hK1
    obtain ⟨A2, c2, rfl, -, hn2, -⟩ := hr2.open_
    go_wp2_with fail
    refine (sum_any A2 h1.length c2 h1 w2 hn2 bh1 rfl (by omega)).mono ?_
    rintro e w3 ⟨rfl, hk3⟩
    have hr3 := hr2.grew hk3
    have hK3 := hK2.trans hk3
    have hs3 := Crc.crc_lt h1 bh1.le
    clear hr2 hn2 hK2 hk3
    go_wp2_with fail
    refine (put_any w.heap.size _ h1 (Crc.crc h1) w3 hr3 hK3.size (by omega)).mono ?_
    rintro e w4 ⟨v4, rfl, hr4, hk4, -⟩
    obtain ⟨h2, eh2⟩ : ∃ l, l = h1 ++ fourF (Crc.crc h1) := ⟨_, rfl⟩
    rw [← eh2] at hr4
    have hK4 := hK3.own hr3 (Nat.le_refl _) hk4
    have bh2 : Bytes h2 := by rw [eh2]; exact bh1.append (fourF_bytes _)
    have lh2 : h2.length ≤ 8 := by rw [eh2, List.length_append, fourF_len]; omega
    have HE2 := Lib.hid eh2
    clear eh2 hr3 hK3 hk4 hs3
    obtain ⟨A4, c4, rfl⟩ := hr4.slice
    have hA4 := hA.grew hK4
    go_wp2_with (at_builtin; refine wpList_append_row _ rfl (.tmp 19) (.tmp 20) 23 rfl w.heap.size 5 i0 (.int .u8 0) 1 1 Try.underlying23 hi hz0 hz1 hz2 rfl (by decide) _ h2.length _ rfl hr4.raw A zs.length cap (zs.map (Value.int .u8)) rfl (by rw [List.length_map, Nat.mul_one]) hnil hA4.src (ints_oneCell _ _) (by unfold maxLen; omega) (by omega) hK4.size ?_; intro v5 w5 hown5 hk5 _)
    have hr5 : Row .u8 5 w5 w.heap.size v5 (h2 ++ zs) := Row.of_append rfl rfl hown5
    obtain ⟨h3, eh3⟩ : ∃ l, l = h2 ++ zs := ⟨_, rfl⟩
    rw [← eh3] at hr5
    have hK5 := hK4.own hr4 (Nat.le_refl _) hk5
    have bh3 : Bytes h3 := by rw [eh3]; exact bh2.append hb
    have lh3 : h3.length ≤ 131080 := by rw [eh3, List.length_append]; omega
    have HE3 := Lib.hid eh3
    clear eh3 hr4 hK4 hk5 hown5 hA4
    obtain ⟨A5, c5, rfl, -, hn5, -⟩ := hr5.open_
    go_wp2_with fail
    refine (sum_any A5 h3.length c5 h3 w5 hn5 bh3 rfl (by omega)).mono ?_
    rintro e w6 ⟨rfl, hk6⟩
    have hr6 := hr5.grew hk6
    have hK6 := hK5.trans hk6
    have hs6 := Crc.crc_lt h3 bh3.le
    clear hr5 hn5 hK5 hk6
    go_wp2_with fail
    refine (put_any w.heap.size _ h3 (Crc.crc h3) w6 hr6 hK6.size (by omega)).mono ?_
    rintro e w7 ⟨v7, rfl, hr7, hk7, -⟩
    go_wp2_with fail
    go_ret
    refine ⟨v7, rfl, hr7.cast ?_, hK6.own hr6 (Nat.le_refl _) hk7⟩
    unfold sealF
    rw [if_neg hlong, HE3.out, HE2.out, HE1.out]
end Go.Proofs.Ytnhhmkgcgogddaa
