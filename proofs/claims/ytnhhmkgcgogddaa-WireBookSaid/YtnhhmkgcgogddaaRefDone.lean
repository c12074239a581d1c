/- Things that are put: their cells in a slice, and the reference's Done over them. -/
import Derived.Test.YtnhhmkgcgogddaaRefPut
namespace Go.Proofs.Ytnhhmkgcgogddaa
open Go.RowKit

/-- A thing: its kind, its number, its bytes, and where these lie. -/
structure It where
  kind : Int
  n : Int
  A : Option Addr
  len : Nat
  cap : Nat
  bs : List Int

def It.bad (x : It) : Bool := x.kind == 1 && decide (x.n < 0)
def It.out (x : It) : List Int := itemF x.kind x.n x.bs
/-- What is known of a thing that was put. -/
structure It.Ok (w : World) (x : It) : Prop where
  nums : Nums .u8 w x.A x.bs
  len : x.bs.length = x.len
  bytes : Bytes x.bs
  nil : x.A = Option.none → x.cap = 0
  n : -9223372036854775808 ≤ x.n ∧ x.n ≤ 9223372036854775807
  long : x.len ≤ 65536

theorem It.Ok.grew {w w' : World} {x : It} (h : x.Ok w) (hk : Keeps None w w') : x.Ok w' := ⟨h.nums.grew hk, h.len, h.bytes, h.nil, h.n, h.long⟩

/-- The things lie in a slice, three cells each. -/
def ItsAt (w : World) (A : Option Addr) (its : List It) : Prop :=
  ∀ j x, its[j]? = some x → ∃ b o, A = some ⟨b, o, Option.none⟩ ∧ w.cell? ⟨b, o + j * 3, Option.none⟩ = some (.int .i64 x.kind) ∧ w.cell? ⟨b, o + j * 3 + 1, Option.none⟩ = some (.int .i64 x.n) ∧ w.cell? ⟨b, o + j * 3 + 2, Option.none⟩ = some (.slice x.A x.len x.cap)
theorem ItsAt.keeps {S : Nat → Prop} {w w' : World} {A : Option Addr} {its : List It} (h : ItsAt w A its) (hk : Keeps S w w') (hA : Off A S) : ItsAt w' A its := by
  intro j x hx
  obtain ⟨b, o, e, h1, h2, h3⟩ := h j x hx
  exact ⟨b, o, e, hk.cell h1 (hA b o e), hk.cell h2 (hA b o e), hk.cell h3 (hA b o e)⟩
theorem ItsAt.grew {w w' : World} {A : Option Addr} {its : List It} (h : ItsAt w A its) (hk : Keeps None w w') : ItsAt w' A its := h.keeps hk (Off.none_ A)

def outF (its : List It) : List Int := its.flatMap It.out
theorem outF_snoc (its : List It) (x : It) : outF (its ++ [x]) = outF its ++ x.out := by simp [outF]
def doneF (its : List It) : List Int × Int := if its.any It.bad then ([], 1) else (outF its, 0)

theorem itemF_len {kind n : Int} {bs : List Int} (hl : bs.length ≤ 65536) (hn : -9223372036854775808 ≤ n ∧ n ≤ 9223372036854775807) : (itemF kind n bs).length ≤ 65546 := by
  have h1 := varF_ten (u := n.toNat) (by omega)
  have h2 := varF_ten (zigF_lt hn)
  have h3 := varF_ten (u := bs.length) (by omega)
  unfold itemF
  split
  · omega
  · split
    · omega
    · rw [List.length_append]; omega

def RefDone (its : List It) (w : World) (e : Ending) (w' : World) : Prop :=
  ∃ v, e = .returned (.tuple #[v, .int .i64 (doneF its).2]) ∧ Row .u8 5 w' w.heap.size v (doneF its).1 ∧ Keeps None w w'
theorem RefDone.of {its : List It} {l : List Int} {k : Int} {w w' : World} {v : Value} (h : doneF its = (l, k)) (hr : Row .u8 5 w' w.heap.size v l) (hk : Keeps None w w') : RefDone its w (.returned (.tuple #[v, .int .i64 k])) w' := by
  unfold RefDone; rw [h]; exact ⟨v, rfl, hr, hk⟩

set_option maxRecDepth 100000 in
set_option maxHeartbeats 1600000 in
theorem refdone_any (A : Option Addr) (n cap : Nat) (its : List It) (w : World) (hA : ItsAt w A its) (hok : ∀ x ∈ its, x.Ok w) (hn : its.length = n) (hr : n ≤ 400) :
    Calls Try.prog 41 #[.slice A n cap] w (RefDone its w) := by
  obtain ⟨i0, hi, hz0, hz1, hz2⟩ := info_parts Try.infoU8
  subst hn
  go_enter Try.func41, Try.ntmps41
  go_wp2
  go_loopw [4, 5] (fun y i wr => ∃ (k : Nat) (ys : List Int), k ≤ its.length ∧ i = .int .i64 k ∧ Row .u8 5 wr w.heap.size y ys ∧ Hid (ys = outF (its.take k)) ∧ Hid ((its.take k).any It.bad = false) ∧ ys.length ≤ k * 65546 ∧ Keeps None w wr) (fun _ i _ => its.length - (intOf i).toNat)
  case atStart => exact ⟨0, [], Nat.zero_le _, rfl, Row.nil _ _ _ _, Lib.hid rfl, Lib.hid rfl, by simp, Keeps.refl _ _⟩
  case round =>
    obtain ⟨k, ys, hk, rfl, hw, hE, hB, hyl, hK⟩ := hrel
    have hs := hK.size
    obtain ⟨Ay, cy, rfl⟩ := hw.slice
    by_cases hlt : k < its.length
    · obtain ⟨x, hx⟩ : ∃ x, its[k]? = some x := ⟨_, List.getElem?_eq_getElem hlt⟩
      have ok := (hok x (List.mem_of_getElem? hx)).grew hK
      obtain ⟨kind, nn, Ax, lx, cx, bs⟩ := x
      obtain ⟨b, o, rfl, c0, c1, c2⟩ := (hA.grew hK) k _ hx
      have hno := ok.n
      have hno' := ok.nums
      have hno2 := ok.len
      have hno3 := ok.nil
      have hno4 := ok.long
      have hit := itemF_len (kind := kind) (n := nn) (bs := bs) (by rw [ok.len]; exact ok.long) ok.n
      have hts := take_succ_of hx
      have HX := Lib.hid hts
      simp only at c0 c1 c2 hno hno' hno2 hno3 hno4
      clear hts ok hx
      by_cases h1 : kind = 1
      · subst h1
        by_cases h2 : nn < 0
        · go_wp2
          go_ret2
          refine RefDone.of (l := []) ?_ (Row.nil _ _ _ _) hK
          unfold doneF
          rw [if_pos]
          rw [List.any_eq_true]
          exact ⟨⟨1, nn, Ax, lx, cx, bs⟩, List.mem_of_mem_take (i := k + 1) (by rw [HX.out]; simp), by simp [It.bad, h2]⟩
        · skip
          go_wp2_with fail
          refine (refput_any 1 nn Ax lx cx bs wr hno' hno2 hno4 hno3 hno (fun _ => by omega)).mono ?_
          rintro e w1 ⟨v1, rfl, hv1, hk1⟩
          obtain ⟨zs, ez⟩ : ∃ zs, zs = itemF 1 nn bs := ⟨_, rfl⟩
          rw [← ez] at hv1 hit
          have HZ := Lib.hid ez
          clear ez
          have hw1 := hw.grew hk1
          have hK1 := hK.trans hk1
          have hs1 := hK1.size
          clear hw hA
          obtain ⟨A1, cc1, rfl, -, hN1, hnil1, -⟩ := hv1.open_
          go_wp2_with (at_builtin; refine wpList_append_row _ rfl (.tmp 32) (.tmp 33) 23 rfl w.heap.size 5 i0 (.int .u8 0) 1 1 Try.underlying23 hi hz0 hz1 hz2 rfl (by decide) _ ys.length _ rfl hw1.raw A1 zs.length cc1 (zs.map (Value.int .u8)) rfl (by rw [List.length_map, Nat.mul_one]) hnil1 hN1.src (ints_oneCell _ _) (by unfold maxLen; omega) (by omega) hs1 ?_; intro v' w2 hown hk2 hloc)
          go_roundw
          case rel =>
            refine ⟨k + 1, ys ++ zs, by omega, by go_num, Row.of_append rfl rfl hown, Lib.hid ?_, Lib.hid ?_, by rw [List.length_append]; omega, hK1.own hw1 (Nat.le_refl _) hk2⟩
            · rw [HX.out, outF_snoc, hE.out, HZ.out]; rfl
            · rw [HX.out, List.any_append, hB.out]; simp [It.bad]; omega
          case measure => simp [intOf]; omega
      · obtain ⟨t1, t2⟩ := test_ne h1
        go_wp2_with fail
        refine (refput_any kind nn Ax lx cx bs wr hno' hno2 hno4 hno3 hno (fun e => absurd e h1)).mono ?_
        rintro e w1 ⟨v1, rfl, hv1, hk1⟩
        obtain ⟨zs, ez⟩ : ∃ zs, zs = itemF kind nn bs := ⟨_, rfl⟩
        rw [← ez] at hv1 hit
        have HZ := Lib.hid ez
        clear ez
        have hw1 := hw.grew hk1
        have hK1 := hK.trans hk1
        have hs1 := hK1.size
        clear hw hA
        obtain ⟨A1, cc1, rfl, -, hN1, hnil1, -⟩ := hv1.open_
        go_wp2_with (at_builtin; refine wpList_append_row _ rfl (.tmp 32) (.tmp 33) 23 rfl w.heap.size 5 i0 (.int .u8 0) 1 1 Try.underlying23 hi hz0 hz1 hz2 rfl (by decide) _ ys.length _ rfl hw1.raw A1 zs.length cc1 (zs.map (Value.int .u8)) rfl (by rw [List.length_map, Nat.mul_one]) hnil1 hN1.src (ints_oneCell _ _) (by unfold maxLen; omega) (by omega) hs1 ?_; intro v' w2 hown hk2 hloc)
        go_roundw
        case rel =>
          refine ⟨k + 1, ys ++ zs, by omega, by go_num, Row.of_append rfl rfl hown, Lib.hid ?_, Lib.hid ?_, by rw [List.length_append]; omega, hK1.own hw1 (Nat.le_refl _) hk2⟩
          · rw [HX.out, outF_snoc, hE.out, HZ.out]; rfl
          · rw [HX.out, List.any_append, hB.out]; simp [It.bad]; exact fun e => absurd e h1
        case measure => simp [intOf]; omega
    · obtain rfl : k = its.length := by omega
      go_wp2
      go_ret2
      refine RefDone.of (l := ys) ?_ hw hK
      unfold doneF
      have e1 := hB.out
      have e2 := hE.out
      rw [List.take_of_length_le (Nat.le_refl _)] at e1 e2
      rw [e1, e2]; rfl
end Go.Proofs.Ytnhhmkgcgogddaa
