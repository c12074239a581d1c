/- The writer's methods: Num, Int, Bytes, Text, Done. -/
import Derived.Test.YtnhhmkgcgogddaaVar
import Derived.Test.YtnhhmkgcgogddaaSeal
import Derived.Lib.AppendStr
import Derived.Laws.BytesArg
namespace Go.Proofs.Ytnhhmkgcgogddaa
open Go.RowKit

/-- P101's number of a number. -/
def zigF (n : Int) : Nat := if n < 0 then 2 * (-(n + 1)).toNat + 1 else 2 * n.toNat
theorem zigF_lt {n : Int} (h : -9223372036854775808 ≤ n ∧ n ≤ 9223372036854775807) : zigF n < 18446744073709551616 := by unfold zigF; split <;> omega

set_option maxRecDepth 100000 in
set_option maxHeartbeats 1600000 in
theorem wnum_any (g base : Nat) (v : Value) (bad : Bool) (zs : List Int) (n : Int) (w : World) (hw : Wr w g base v bad zs) (hb : base ≤ w.heap.size) (hn : -9223372036854775808 ≤ n ∧ n ≤ 9223372036854775807) (hr : zs.length + 10 ≤ 140737488355328) :
    Calls Try.prog 42 #[.pointer (some ⟨g, 0, Option.none⟩), .int .i64 n] w (Puts g base v (if n < 0 then true else bad) (if n < 0 then zs else zs ++ varF n.toNat) w) := by
  by_cases hneg : n < 0
  · rw [if_pos hneg, if_pos hneg]
    have hf := hw.1.free 1
    obtain ⟨q, hq⟩ := hw.1.has 1 (by simp)
    go_enter Try.func42, Try.ntmps42
    go_wp2
    refine bodyPost_ret (results_none rfl _ _ _) rfl ?_
    refine ⟨rfl, v, ⟨hw.1.set 1 _, hw.2.1.keeps (S := One g) ((Keeps.refl _ _).setCell _ _ (fun _ => rfl)) (fun b hb' e => hw.2.2 b hb' e), hw.2.2⟩, (Keeps.refl _ _).setCell _ _ (fun _ => .inl rfl), fun b h => .inl h⟩
  · rw [if_neg hneg, if_neg hneg]
    obtain ⟨k, rfl⟩ := Int.eq_ofNat_of_zero_le (show 0 ≤ n by omega)
    rw [Int.toNat_natCast]
    have e1 : (k : Int) % 18446744073709551616 = k := by omega
    go_enter Try.func42, Try.ntmps42
    go_wp2_with fail
    refine (varint_any g base v bad zs k w hw hb (by omega) hr).mono ?_
    rintro e w1 ⟨rfl, h⟩
    go_wp2_with fail
    go_end0
    exact ⟨rfl, h⟩

theorem xor_all (x y : Nat) (h : x + y = 18446744073709551615) : x ^^^ 18446744073709551615 = y := by
  have hx : x < 2 ^ 64 := by omega
  have e : x ^^^ (2 ^ 64 - 1) = 2 ^ 64 - 1 - x := by
    apply Nat.eq_of_testBit_eq
    intro i
    rw [Nat.testBit_xor, Nat.testBit_two_pow_sub_one]
    have := @Nat.testBit_two_pow_sub_succ x 64 hx i
    rw [show 2 ^ 64 - 1 - x = 2 ^ 64 - (x + 1) by omega, this]
    by_cases hi : i < 64
    · simp [hi]
    · simp [hi]
      exact Nat.testBit_lt_two_pow (Nat.lt_of_lt_of_le hx (Nat.pow_le_pow_right (by omega) (by omega)))
  simp at e
  omega
theorem wrap_u64 (n : Int) : IntKind.u64.wrap n = n % 18446744073709551616 := by
  simp [IntKind.wrap, IntKind.bits, IntKind.signed]
theorem zig_bits (n : Int) (h : -9223372036854775808 ≤ n ∧ n ≤ 9223372036854775807) : bits .xor .u64 (IntKind.u64.wrap (IntKind.u64.wrap n * 2)) (IntKind.u64.wrap (n / 9223372036854775808)) = (zigF n : Int) := by
  rw [wrap_u64 n, wrap_u64 (n / _), wrap_u64 (_ * 2)]
  have hz := zigF_lt h
  by_cases hn : n < 0
  · have e0 : zigF n = 2 * (-(n + 1)).toNat + 1 := by unfold zigF; rw [if_pos hn]
    have e1 : n / 9223372036854775808 % 18446744073709551616 = ((18446744073709551615 : Nat) : Int) := by omega
    have e2 : n % 18446744073709551616 * 2 % 18446744073709551616 = ((18446744073709551615 - zigF n : Nat) : Int) := by omega
    rw [e1, e2, bits_nat_xor .u64 _ _ (by simp [IntKind.bits]; omega) (by simp [IntKind.bits]), xor_all _ (zigF n) (by omega), wrap_u64_nat _ (by omega)]
  · have e0 : zigF n = 2 * n.toNat := by unfold zigF; rw [if_neg hn]
    have e1 : n / 9223372036854775808 % 18446744073709551616 = ((0 : Nat) : Int) := by omega
    have e2 : n % 18446744073709551616 * 2 % 18446744073709551616 = ((zigF n : Nat) : Int) := by omega
    rw [e1, e2, bits_nat_xor .u64 _ _ (by simp [IntKind.bits]; omega) (by simp [IntKind.bits]), Nat.xor_zero, wrap_u64_nat _ (by omega)]

set_option maxRecDepth 100000 in
set_option maxHeartbeats 1600000 in
theorem wint_any (g base : Nat) (v : Value) (bad : Bool) (zs : List Int) (n : Int) (w : World) (hw : Wr w g base v bad zs) (hb : base ≤ w.heap.size) (hn : -9223372036854775808 ≤ n ∧ n ≤ 9223372036854775807) (hr : zs.length + 10 ≤ 140737488355328) :
    Calls Try.prog 43 #[.pointer (some ⟨g, 0, Option.none⟩), .int .i64 n] w (Puts g base v bad (zs ++ varF (zigF n)) w) := by
  have hz := zigF_lt hn
  obtain ⟨z, ez⟩ : ∃ z, z = zigF n := ⟨_, rfl⟩
  have e1 := zig_bits n hn
  rw [← ez] at hz e1
  rw [← ez]
  clear ez
  go_enter Try.func43, Try.ntmps43
  go_wp2_with fail
  refine (varint_any g base v bad zs z w hw hb hz hr).mono ?_
  rintro e w1 ⟨rfl, h⟩
  go_wp2_with fail
  go_end0
  exact ⟨rfl, h⟩

set_option maxRecDepth 100000 in
set_option maxHeartbeats 1600000 in
theorem wbytes_any (g base : Nat) (v : Value) (bad : Bool) (zs : List Int) (A : Option Addr) (n cap : Nat) (bs : List Int) (w : World) (hw : Wr w g base v bad zs) (hb : base ≤ w.heap.size) (hA : Nums .u8 w A bs) (hbs : bs.length = n) (hn : n ≤ 65536) (hnil : A = Option.none → cap = 0) (hoff : Off A (Wt g v)) (hr : zs.length + 70000 ≤ 140737488355328) :
    Calls Try.prog 44 #[.pointer (some ⟨g, 0, Option.none⟩), .slice A n cap] w (Puts g base v bad ((zs ++ varF n) ++ bs) w) := by
  obtain ⟨i0, hi, hz0, hz1, hz2⟩ := info_parts Try.infoU8
  subst hbs
  obtain ⟨ys, hys⟩ : ∃ ys, ys = zs ++ varF bs.length := ⟨_, rfl⟩
  have hten := varF_ten (u := bs.length) (by omega)
  have hyl : ys.length ≤ zs.length + 10 := by rw [hys, List.length_append]; omega
  rw [← hys]
  have HY := Lib.hid hys
  clear hys hten
  go_enter Try.func44, Try.ntmps44
  go_wp2_with fail
  refine (wnum_any g base v bad zs (bs.length : Int) w hw hb (by omega) (by omega)).mono ?_
  rintro e w1 ⟨rfl, v1, hw1, hk1, hn1⟩
  rw [if_neg (by omega), if_neg (by omega), Int.toNat_natCast, ← HY.out] at hw1
  have hA1 := hA.keeps hk1 hoff
  obtain ⟨A1, c1, rfl⟩ := hw1.2.1.slice
  have c0 := hw1.1.cell 0 _ rfl
  go_wp2_with (at_builtin; refine wpList_append_row _ rfl (.tmp 12) (.tmp 13) 23 rfl base 5 i0 (.int .u8 0) 1 1 Try.underlying23 hi hz0 hz1 hz2 rfl (by decide) _ ys.length _ rfl hw1.2.1.raw A bs.length cap (bs.map (Value.int .u8)) rfl (by rw [List.length_map, Nat.mul_one]) hnil hA1.src (ints_oneCell _ _) (by unfold maxLen; omega) (by omega) (by have := hk1.size; omega) ?_; intro v' w2 hown hk2 hloc; have hr1 : Row .u8 5 w2 base v' (ys ++ bs) := Row.of_append rfl rfl hown; have hbk := hw1.1.keeps hk2 (fun e => hw1.2.2 g e rfl); have hf := hbk.free 0; obtain ⟨q, hq⟩ := hbk.has 0 (by simp); have H3 := Lib.hid (hw1.appended hr1 hk2 hloc); obtain ⟨A', c', ev⟩ := hr1.slice; obtain rfl : v' = .slice A' (ys.length + bs.length) c' := ev.trans (by simp); clear hr1 hown ev hbk)
  go_end0
  obtain ⟨a1, a2, a3⟩ := H3.out
  refine ⟨rfl, _, a1, hk1.wt hn1 a2, ?_⟩
  intro b hb'
  rcases a3 b hb' with h | h
  · exact hn1 b h
  · right; have := hk1.size; omega

/-- append of a string's bytes, with where the row lies behind it. -/
theorem wpList_append_string {P : Program} (w : World) {ops : Array Oper} {rest : List Oper} {o : Oper} {a : Act} {Q : Exit → Act → World → Prop} (hgd : o.guard = Option.none) (sl x : Operand) (t u : TypeId)
    (ho : o.op = .call { callee := .builtin .append, args := #[sl, x], argTypes := #[t, u] })
    (base : Nat) (e : TypeId) (i : TypeInfo) (ht : P.underlying t = some (.slice e)) (hu : P.underlying u = some .string) (hi : P.info? e = some i) (hz : i.zero = some (.int .u8 0))
    (hsize : i.size = 1) (hby : i.bytes = 1)
    (v : Value) (n : Nat) (xs : List Value) (hs : a.eval sl = v) (hown : w.ownsRow base e 1 v n xs) (s : ByteArray) (hx : a.eval x = .string s)
    (h63 : n + s.size ≤ maxLen) (hbytes : n + s.size ≤ 140737488355328) (hbase : base ≤ w.heap.size)
    (h : ∀ v' w', w'.ownsRow base e 1 v' (n + s.size) (xs ++ Lib.strCells s) → Keeps (OwnB v) w w' → (v'.ownBlock = v.ownBlock ∨ v'.ownBlock = some w.heap.size) → wpList P ops Q rest (a.put o.dst v') w') : wpList P ops Q (o :: rest) a w := by
  refine wpList_plain hgd fun K hK => ?_
  obtain ⟨v', w', hr, h2, h3, h4⟩ := Lib.run_append_own_string (P := P) w base t u o.type e i ht hu hi hz hsize hby v n xs hown s h63 hbytes hbase
  have hloc : v'.ownBlock = v.ownBlock ∨ v'.ownBlock = some w.heap.size := by
    have hsmall : n + s.size ≤ 9223372036854775807 := by simp only [maxLen] at h63; omega
    have hxl : xs.length = n := by simpa using hown.1
    rcases hown.2 with ⟨rfl, rfl⟩ | ⟨g, cap, cur, rfl, hbg, hg, hnc, hcm, hcs, htake⟩
    · by_cases hm : s.size = 0
      · left; rw [h4.2 ⟨rfl, hm⟩]
      · have hr' := run_append_nil_string (P := P) w t u o.type e i (.int .u8 0) ht hu hi hz s (by omega) (by omega) (by rw [hby]; omega)
        rw [hr] at hr'
        injection hr' with e1 e2
        right; rw [e1]; rfl
    · have hcs' : cur.size = cap := by simpa using hcs
      by_cases hroom : n + s.size ≤ cap
      · have hr' := Lib.run_append_room_string (P := P) w t u o.type e i ht hu hi hsize g n cap cur hg s hroom (by omega)
        rw [hr] at hr'
        injection hr' with e1 e2
        left; rw [e1]; rfl
      · have holds : ∀ j u, xs[j]? = some u → w.cell? ((⟨g, 0, Option.none⟩ : Addr).add j) = some u := hown.cells (g := g) rfl
        have hr' := Lib.run_append_grow_string (P := P) w t u o.type e i (.int .u8 0) ht hu hi hz ⟨g, 0, Option.none⟩ n cap xs (by rw [hsize]; simpa using hxl) holds s (by omega) (by omega) (by rw [hby]; exact growslice_fits (by omega) (by omega))
        rw [hr] at hr'
        injection hr' with e1 e2
        right; rw [e1]; rfl
  unfold Oper.wp execOp
  simp only [ho, resolve, invoke, builtin, Sem.run_bind, Sem.run_pure, Result.andThen_ok, List.map_toArray, List.map_cons, List.map_nil, hs, hx, hr]
  exact hK _ _ (h v' w' h2 (Keeps.of_grown h3) hloc)

theorem strCells_nums {bs : List Int} (hb : Bytes bs) : Lib.strCells (strOfNums bs) = bs.map (Value.int .u8) := by
  unfold Lib.strCells
  rw [strOfNums_data, List.map_map]
  apply List.map_congr_left
  intro c hc
  have := hb c hc
  simp only [Function.comp]
  congr 1
  rw [UInt8.toNat_ofNat']
  omega

set_option maxRecDepth 100000 in
set_option maxHeartbeats 1600000 in
theorem wtext_any (g base : Nat) (v : Value) (bad : Bool) (zs : List Int) (bs : List Int) (w : World) (hw : Wr w g base v bad zs) (hb : base ≤ w.heap.size) (hB : Bytes bs) (hn : bs.length ≤ 65536) (hr : zs.length + 70000 ≤ 140737488355328) :
    Calls Try.prog 45 #[.pointer (some ⟨g, 0, Option.none⟩), .string (strOfNums bs)] w (Puts g base v bad ((zs ++ varF bs.length) ++ bs) w) := by
  obtain ⟨i0, hi, hz0, hz1, hz2⟩ := info_parts Try.infoU8
  obtain ⟨s, es⟩ : ∃ s, s = strOfNums bs := ⟨_, rfl⟩
  have hsz : s.size = bs.length := by rw [es, strOfNums_size]
  have hcs := strCells_nums hB
  rw [← es] at hcs ⊢
  clear es
  obtain ⟨ys, hys⟩ : ∃ ys, ys = zs ++ varF bs.length := ⟨_, rfl⟩
  have hten := varF_ten (u := bs.length) (by omega)
  have hyl : ys.length ≤ zs.length + 10 := by rw [hys, List.length_append]; omega
  rw [← hys]
  have HY := Lib.hid hys
  clear hys hten
  go_enter Try.func45, Try.ntmps45
  go_wp2_with fail
  refine (wnum_any g base v bad zs (bs.length : Int) w hw hb (by omega) (by omega)).mono ?_
  rintro e w1 ⟨rfl, v1, hw1, hk1, hn1⟩
  rw [if_neg (by omega), if_neg (by omega), Int.toNat_natCast, ← HY.out] at hw1
  obtain ⟨A1, c1, rfl⟩ := hw1.2.1.slice
  have c0 := hw1.1.cell 0 _ rfl
  have hs1 := hk1.size
  go_wp2_with (at_builtin; refine wpList_append_string _ rfl (.tmp 12) (.tmp 13) 23 9 rfl base 5 i0 Try.underlying23 Try.underlying9 hi hz0 hz1 hz2 _ ys.length _ rfl hw1.2.1.raw s rfl (by unfold maxLen; omega) (by omega) (by omega) ?_; intro v' w2 hown hk2 hloc; have hr1 : Row .u8 5 w2 base v' (ys ++ bs) := Row.of_append rfl rfl (by rw [← hcs, ← hsz]; exact hown); have hbk := hw1.1.keeps hk2 (fun e => hw1.2.2 g e rfl); have hf := hbk.free 0; obtain ⟨q, hq⟩ := hbk.has 0 (by simp); have H3 := Lib.hid (hw1.appended hr1 hk2 hloc); obtain ⟨A', c', ev⟩ := hr1.slice; obtain rfl : v' = .slice A' (ys.length + bs.length) c' := ev.trans (by simp); clear hr1 hown ev hbk)
  go_end0
  obtain ⟨a1, a2, a3⟩ := H3.out
  refine ⟨rfl, _, a1, hk1.wt hn1 a2, ?_⟩
  intro b hb'
  rcases a3 b hb' with h | h
  · exact hn1 b h
  · right; omega

/-- What Done tells. -/
def WDone (bad : Bool) (zs : List Int) (w : World) (e : Ending) (w' : World) : Prop :=
  ∃ v, e = .returned (.tuple #[v, .int .i64 (if bad = true then 1 else 0)]) ∧ Row .u8 5 w' w.heap.size v (if bad = true then [] else zs) ∧ Keeps None w w'

set_option maxRecDepth 100000 in
set_option maxHeartbeats 1600000 in
theorem wdone_any (g base : Nat) (v : Value) (bad : Bool) (zs : List Int) (w : World) (hw : Wr w g base v bad zs) (hr : zs.length ≤ 140737488351232) :
    Calls Try.prog 30 #[.pointer (some ⟨g, 0, Option.none⟩)] w (WDone bad zs w) := by
  have c1 := hw.1.cell 1 _ rfl
  have c0 := hw.1.cell 0 _ rfl
  cases bad with
  | true =>
    go_enter Try.func30, Try.ntmps30
    go_wp2
    go_ret2
    exact ⟨_, rfl, Row.nil _ _ _ _, Keeps.refl _ _⟩
  | false =>
    obtain ⟨A, c, rfl, -, hN, hnil, -⟩ := hw.2.1.open_
    go_enter Try.func30, Try.ntmps30
    go_wp2_with fail
    refine (clone_any A zs.length c zs w hN rfl hr).mono ?_
    rintro e w1 ⟨v1, rfl, hr1, hk1⟩
    go_wp2_with fail
    go_ret2
    exact ⟨_, rfl, hr1, hk1⟩
end Go.Proofs.Ytnhhmkgcgogddaa
