/- The walk of WireBack. -/
import Derived.Test.YtnhhmkgcgogddaaBackPut
namespace Go.Proofs.Ytnhhmkgcgogddaa.wireBack
open Go.RowKit Go.Proofs.Ytnhhmkgcgogddaa.wireWrites Go.Proofs.Ytnhhmkgcgogddaa.putLoop Go.Proofs.YtnhhmkgcgogddaaW.PrintLast
set_option linter.unusedVariables false

theorem itemF_bytes {kind n : Int} {bs : List Int} (hb : Bytes bs) : Bytes (itemF kind n bs) := by
  unfold itemF
  split
  · exact varF_bytes _
  · split
    · exact varF_bytes _
    · intro c hc
      rcases List.mem_append.1 hc with h | h
      · exact varF_bytes _ c h
      · exact hb c h
theorem outF_bytes (its : List It) (h : ∀ x ∈ its, Bytes x.bs) : Bytes (outF its) := by
  intro c hc
  unfold outF at hc
  obtain ⟨x, hx, hcx⟩ := List.mem_flatMap.1 hc
  exact itemF_bytes (h x hx) c hcx

theorem sameB_same (l : List Int) : SameB l l = true := by simp [SameB]

theorem varF_pos (u : Nat) : 0 < (varF u).length := by
  by_cases h : 127 < u
  · rw [varF_more h]; simp
  · rw [varF_last h]; simp
theorem out_pos (x : It) : 0 < x.out.length := by
  unfold It.out itemF
  split
  · exact varF_pos _
  · split
    · exact varF_pos _
    · rw [List.length_append]; have := varF_pos x.bs.length; omega

def LawEnd (w : World) (e : Ending) (w' : World) : Prop := e = .returned (.bool true) ∧ Below w.heap.size w w'

set_option maxRecDepth 100000 in
set_option maxHeartbeats 3200000 in
theorem walk (A : Option Addr) (n cap : Nat) (its : List It) (w : World) (hA : ItsAt w A its) (hraw : ∀ x ∈ its, x.Raw w) (hn : its.length = n) (hr : n ≤ 140737488351232) :
    Calls Try.prog 11 #[.slice A n cap] w (LawEnd w) := by
  subst hn
  go_enter Try.func11, Try.ntmps11
  go_wp2_with fail
  go_loopw [4, 5] (fun y i wr => ∃ (k : Nat), k ≤ its.length ∧ k ≤ 400 ∧ i = .int .i64 k ∧ InvB w w.heap.size w.heap.size k y wr) (fun _ i _ => its.length - (intOf i).toNat)
  case atStart =>
    refine ⟨0, Nat.zero_le _, by omega, rfl, ⟨.slice Option.none 0 0, [], [], ⟨Blk.new w _ _, Row.nil _ _ _ _, fun b e => by simp [Value.ownBlock] at e⟩, Now.nil _ _, fun b e => by simp [Value.ownBlock] at e, rfl, Nat.le_refl _, Nat.zero_le _, by simp, (Keeps.refl _ _).alloc _⟩⟩
  case round =>
    obtain ⟨k, hk, hk4, rfl, hInv⟩ := hrel
    obtain ⟨v, zs, got, hw, hN, hoff, hout, hgl, hzl, hok, hK⟩ := hInv.out
    have hs := hK.size
    obtain ⟨AN, cN, rfl, hcN, hNI⟩ := hN.open_
    by_cases hlt : k < its.length ∧ k < 400
    · obtain ⟨hlt, h4⟩ := hlt
      obtain ⟨x, hx⟩ : ∃ x, its[k]? = some x := ⟨_, List.getElem?_eq_getElem hlt⟩
      have raw := hraw x (List.mem_of_getElem? hx)
      obtain ⟨kind, nn, Ax, lx, cx, bs⟩ := x
      obtain ⟨b, o, rfl, c0, c1, c2⟩ := (hA.grew hK) k _ hx
      clear hx
      simp only at c0 c1 c2
      have hwg := hw.1.lt
      have HB := Lib.hid hout
      have HO := Lib.hid hok
      have HR := Lib.hid raw
      have HI := Lib.hid hInv
      have rn := raw.n
      simp only at rn
      clear hout hok hInv hA hraw raw
      go_wp2_with fail
      refine (right_any kind nn Ax lx cx wr rn).mono ?_
      rintro e w1 ⟨rfl, hk1⟩
      obtain ⟨K, hKK⟩ : ∃ K, K = rightK kind := ⟨_, rfl⟩
      obtain ⟨N, hNN⟩ : ∃ N, N = rightN kind nn := ⟨_, rfl⟩
      have hKr : 1 ≤ K ∧ K ≤ 4 := by rw [hKK]; exact rightK_in kind
      have hNr : -9223372036854775808 ≤ N ∧ N ≤ 9223372036854775807 := by rw [hNN]; exact rightN_in kind nn rn
      have hNp : K = 1 → 0 ≤ N := by rw [hKK, hNN]; exact rightN_pos kind nn
      rw [← hKK, ← hNN]
      have HNP := Lib.hid hNp
      clear hKK hNN hNp
      have hka : Keeps None wr (w1.alloc (.cells #[.int .i64 K, .int .i64 N, .slice Ax lx cx] 32)) := hk1.alloc _
      by_cases hlx : lx ≤ 65536
      · have hBx := Blk.new w1 32 [.int .i64 K, .int .i64 N, .slice Ax lx cx]
        have hK1 := hK.trans hka
        have hvlt := fun b (e : v.ownBlock = some b) => hw.2.1.lt b e
        have hNum : ∀ w', Keeps (Wt w.heap.size v) (w1.alloc (.cells #[.int .i64 K, .int .i64 N, .slice Ax lx cx] 32)) w' → Nums .u8 w' Ax bs := fun w' h =>
          HR.out.nums.grew (hK1.andThen h (fun i hi e => by
            rcases e with e | e
            · omega
            · have := (hvlt i e).1; omega))
        have hOk : It.Ok w ⟨K, N, Ax, lx, cx, bs⟩ := ⟨HR.out.nums, HR.out.len, HR.out.bytes, HR.out.nil, hNr, hlx⟩
        have HOK := Lib.hid hOk
        have HNU := Lib.hid hNum
        clear hNum hOk
        go_wp2_with fail
        refine (putting_any w.heap.size w.heap.size v false zs K N Ax lx cx bs _ (hw.grew hka) (by have := hka.size; omega) HNU.out HOK.out.len hlx HOK.out.bytes hNr hKr (by omega)).mono ?_
        rintro e w2 ⟨rfl, v2, hP, hk2, hn2⟩
        rw [if_neg (fun h => by have := HNP.out h.1; omega), if_neg (fun h => by have := HNP.out h.1; omega)] at hP
        have hw1s := hk1.size
        have hxoff : ¬ Wt w.heap.size v w1.heap.size := by
          rintro (f | f)
          · omega
          · have := (hvlt _ f).2; omega
        have hBx2 := hBx.keeps hk2 hxoff
        have d0 := hBx2.cell 0 _ rfl
        have d1 := hBx2.cell 1 _ rfl
        have d2 := hBx2.cell 2 _ rfl
        have hNI2 : Now w2 w.heap.size (.slice AN got.length cN) got := (hN.keeps hka (fun _ _ f => f)).keeps hk2 (fun b e f => by
          rcases f with f | f
          · exact (hoff b e).1 f
          · exact (hoff b e).2 f)
        have HP := Lib.hid (And.intro hP hn2)
        have HN := Lib.hid (And.intro hN hNI2)
        have hs2 := Nat.le_trans hka.size hk2.size
        have hkn : Keeps None w2 (w2.alloc (.cells #[.int .i64 K, .int .i64 N, .slice Ax lx cx] 32)) := (Keeps.refl _ _).alloc _
        obtain ⟨i3, hi, hz0, hz1, hz2⟩ := info_parts Try.infoItem
        clear hN hNI2 hP hn2 hBx hBx2
        go_wp2_with (at_builtin; refine wpList_append_row _ rfl (.tmp 37) (.tmp 39) 28 rfl w.heap.size 32 i3 (.agg #[.int .i64 0, .int .i64 0, .slice Option.none 0 0]) 3 40 Try.underlying28 hi hz0 hz1 hz2 rfl (by decide) _ got.length _ rfl (HN.out.2.keeps hkn (fun _ _ f => f)) (some ⟨w2.heap.size, 0, Option.none⟩) 1 1 [.int .i64 K, .int .i64 N, .slice Ax lx cx] rfl rfl (fun e => by cases e) (src_new w2 32 _ _ rfl) (by intro u hu; simp at hu; rcases hu with rfl | rfl | rfl <;> rfl) (by unfold maxLen; omega) (by omega) (by have := hkn.size; omega) ?_; intro v3 w3 hown hk3 hloc)
        go_roundw
        case rel => exact ⟨k + 1, by omega, by omega, by go_num, InvB.more ⟨K, N, Ax, lx, cx, bs⟩ hwg (Nat.le_refl _) hoff HB.out hgl hzl HO.out ⟨HOK.out, hKr, HNP.out⟩ HN.out.1 hK1 hka HP.out.1 (fun b e => (hvlt b e).1) (Nat.le_refl _) hk2 HP.out.2 hkn hown hk3 hloc⟩
        case measure => simp [intOf]; omega
      · go_wp2_with fail
        go_roundw
        case rel => exact ⟨k + 1, by omega, by omega, by go_num, HI.out.next hka⟩
        case measure => simp [intOf]; omega
    · have hge : ¬ k < its.length ∨ (k < its.length ∧ ¬ k < 400) := by omega
      have HB := Lib.hid hout
      have HO := Lib.hid hok
      have hNl := fun b (e : (Value.slice AN got.length cN).ownBlock = some b) => World.ownsRow.lt hN b e
      have hzr : zs.length ≤ 140737488351232 := by omega
      have hBy : Bytes zs := by rw [hout]; exact outF_bytes got (fun x hx => (hok x hx).ok.bytes)
      have HBY := Lib.hid hBy
      clear hout hok hInv hA hraw hNI hBy
      rcases hge with hq | ⟨hq, hq4⟩
      all_goals
        go_wp2_with fail
        refine (wdone_any w.heap.size w.heap.size v false zs wr hw hzr).mono ?_
        rintro e wa ⟨v2, rfl, hv2, hka⟩
        simp only [Bool.false_eq_true, if_false] at hv2 ⊢
        have hNa := hN.keeps hka (fun _ _ f => f)
        have hKa := hK.trans hka
        obtain ⟨A2, c2, rfl, -, n2, -⟩ := hv2.open_
        clear hv2
        go_wp2_with fail
        refine (read_any A2 zs.length c2 zs wa n2 rfl hzr).mono ?_
        rintro e wb ⟨g', v', rfl, hs', hkb⟩
        have hNb := hNa.keeps hkb (fun _ _ f => f)
        have hKb := hKa.trans hkb
        have hgb := Rd.hb hs'
        have has := hka.size
        go_wp2_with fail
        have hws := hkb.size
        have hgl' := (Rd.blk hs').lt
        go_loopw [10] (fun i wr => ∃ (j : Nat), j ≤ got.length ∧ i = .int .i64 j ∧ St.at ⟨(outF (got.take j)).length, 0, 0⟩ wr g' wa.heap.size v' zs ∧ Now wr w.heap.size (.slice AN got.length cN) got ∧ Keeps None w wr) (fun i _ => got.length - (intOf i).toNat)
        case atStart => exact ⟨0, Nat.zero_le _, rfl, hs', hNb, hKb⟩
        case round =>
          clear hs' hNb hKb
          obtain ⟨j, hj, rfl, hsj, hNj, hKj⟩ := hrel
          by_cases hlj : j < got.length
          · obtain ⟨x, hx⟩ : ∃ x, got[j]? = some x := ⟨_, List.getElem?_eq_getElem hlj⟩
            have hgood := HO.out x (List.mem_of_getElem? hx)
            have HXJ := Lib.hid hx
            have HTJ := Lib.hid (take_succ_of hx)
            have hdrop : zs.drop (outF (got.take j)).length = x.out ++ outF (got.drop (j + 1)) := by
              have e1 : got = got.take j ++ x :: got.drop (j + 1) := by
                obtain ⟨hl', he⟩ := List.getElem?_eq_some_iff.1 hx
                rw [← he, List.getElem_cons_drop hl', List.take_append_drop]
              have e2 : outF got = outF (got.take j) ++ (x.out ++ outF (got.drop (j + 1))) := by
                conv => lhs; rw [e1]
                simp [outF]
              rw [HB.out, e2, List.drop_left]
            have hple : (outF (got.take j)).length ≤ zs.length := Rd.le hsj
            have hplt : (outF (got.take j)).length < zs.length := by
              have h1 := congrArg List.length hdrop
              have h2 := out_pos x
              rw [List.length_drop, List.length_append] at h1
              omega
            obtain ⟨P, hP⟩ : ∃ P, P = (outF (got.take j)).length := ⟨_, rfl⟩
            rw [← hP] at hsj hdrop hple hplt
            have HPP := Lib.hid hP
            obtain ⟨kd, nn, Ay, ly, cy, bs⟩ := x
            have hkin : 1 ≤ kd ∧ kd ≤ 4 := hgood.kind
            clear hP hx
            go_wp2_with fail
            refine (rmore_any g' wa.heap.size v' zs ⟨P, 0, 0⟩ wr hsj hzr).mono ?_
            rintro e w2 ⟨rfl, hd2⟩
            rw [show (decide ((⟨P, 0, 0⟩ : St).err = 0) && decide ((⟨P, 0, 0⟩ : St).p < zs.length)) = true by simp [hplt]]
            have hs2 : St.at ⟨P, 0, 0⟩ w2 g' wa.heap.size v' zs := Rd.grew hsj (hd2.keeps None)
            have hN2 := hNj.keeps (hd2.keeps None) (fun _ _ f => f)
            have hK2 := hKj.trans (hd2.keeps None)
            obtain ⟨A', c', ev', hc', hI2⟩ := hN2.open_
            cases ev'
            obtain ⟨b, o, rfl, u0, u1, u2⟩ := hI2 j _ HXJ.out
            simp only at u0 u1 u2
            rcases (by omega : kd = 1 ∨ kd = 2 ∨ kd = 3 ∨ kd = 4) with hkd | hkd | hkd | hkd
            · subst hkd
              have hst : numStep zs ⟨P, 0, 0⟩ = (nn, ⟨P + (varF nn.toNat).length, 0, 0⟩) := num_back (rest := outF (got.drop (j + 1))) (by rw [hdrop]; rfl) (hgood.pos rfl) hgood.ok.n.2
              have hout1 : (It.out ⟨1, nn, Ay, ly, cy, bs⟩).length = (varF nn.toNat).length := by first | rfl | (unfold It.out itemF; simp)
              have hQ := cread_num g' wa.heap.size v' zs ⟨P, 0, 0⟩ w2 hs2 hzr HBY.out
              rw [hst] at hQ
              simp only at hQ
              have HOUT1 := Lib.hid hout1
              clear hout1
              go_wp2_with fail
              refine hQ.mono ?_
              rintro e w3 ⟨A3, c3, rfl, n3, -, -, hs3, hk3⟩
              have hN3 := hN2.keeps hk3 (fun b' e' f => by have : b' = g' := f; have := (hNl b' e').2; omega)
              have hK3 : Keeps None w w3 := hK2.andThen hk3 (fun i hi e => by have : i = g' := e; omega)
              have hk34 : Keeps None w3 (w3.alloc (.cells #[.int .i64 1, .int .i64 nn, .slice A3 0 c3] 32)) := (Keeps.refl _ _).alloc _
              have hxb := Blk.new w3 32 [.int .i64 1, .int .i64 nn, .slice A3 0 c3]
              go_wp2_with fail
              obtain ⟨w4, hw4⟩ : ∃ w4, w4 = w3.alloc (.cells #[.int .i64 1, .int .i64 nn, .slice A3 0 c3] 32) := ⟨_, rfl⟩
              obtain ⟨xb, hxbe⟩ : ∃ xb, xb = w3.heap.size := ⟨_, rfl⟩
              have hxb : Blk w4 xb 32 [.int .i64 1, .int .i64 nn, .slice A3 0 c3] := by rw [hw4, hxbe]; exact hxb
              have hk34 : Keeps None w3 w4 := by rw [hw4]; exact hk34
              have hN4 := hN3.keeps hk34 (fun _ _ f => f)
              have hs4 : St.at ⟨P + (varF nn.toNat).length, 0, 0⟩ w4 g' wa.heap.size v' zs := Rd.grew hs3 hk34
              have hK4 := hK3.trans hk34
              have n3 := n3.grew hk34
              obtain ⟨A', c', ev', hc', hI4⟩ := hN4.open_
              cases ev'
              obtain ⟨b', o', eb, q0, q1, q2⟩ := hI4 j _ HXJ.out
              simp only at q0 q1 q2
              obtain ⟨rfl, rfl⟩ : b = b' ∧ o = o' := by cases eb; exact ⟨rfl, rfl⟩
              have r1 := hxb.cell 1 _ rfl
              have r2 := hxb.cell 2 _ rfl
              have held : ∀ w', Keeps None w4 w' → (w'.cell? ⟨b, o + j * 3, Option.none⟩ = some (.int .i64 1) ∧ w'.cell? ⟨b, o + j * 3 + 1, Option.none⟩ = some (.int .i64 nn) ∧ w'.cell? ⟨b, o + j * 3 + 2, Option.none⟩ = some (.slice Ay ly cy) ∧ w'.cell? ⟨xb, 1, Option.none⟩ = some (.int .i64 nn) ∧ w'.cell? ⟨xb, 2, Option.none⟩ = some (.slice A3 0 c3)) := fun w' h => ⟨h.cell q0 id, h.cell q1 id, h.cell q2 id, h.cell r1 id, h.cell r2 id⟩
              have HELD := Lib.hid held
              have HBL : Hid (bs.length = ly) := Lib.hid hgood.ok.len
              have HBY2 : Hid (∀ w', Keeps None w4 w' → Nums .u8 w' Ay bs) := Lib.hid (fun w' h => hgood.ok.nums.grew (hK4.trans h))
              have hly : ly ≤ 65536 := hgood.ok.long
              clear held hst hQ
              rw [← hw4, ← hxbe]
              clear hw4 hxbe
              refine start_ (ds := []) (S := (fun w' => w'.cell? ⟨b, o + j * 3, Option.none⟩ = some (.int .i64 1) ∧ w'.cell? ⟨b, o + j * 3 + 1, Option.none⟩ = some (.int .i64 nn) ∧ w'.cell? ⟨b, o + j * 3 + 2, Option.none⟩ = some (.slice Ay ly cy) ∧ w'.cell? ⟨xb, 1, Option.none⟩ = some (.int .i64 nn) ∧ w'.cell? ⟨xb, 2, Option.none⟩ = some (.slice A3 0 c3))) #[false, false, false, false, false, false, false, false, false, false, false, false, false, false, false, false, false, false, false, false, false, false, false, false, false, false, false, false, false, false, false, false, false, false, false] (by kernel_rfl) rfl rfl (HELD.out _ (Keeps.refl _ _).drew) (fun hS0 => ?_)
              refine pure_ (i := 0) (N := some 69) (v := .slice (some ⟨b, o, Option.none⟩) got.length cN) #[true, false, false, false, false, false, false, false, false, false, false, false, false, false, false, false, false, false, false, false, false, false, false, false, false, false, false, false, false, false, false, false, false, false, false] rfl rfl (by kernel_rfl) (fun _ _ _ h => h) (Or.inl ⟨wanted_none rfl, fun w => by rfl⟩) rfl ?_
              try simp only [Act.put, List.setIfInBounds_toArray, List.set_cons_zero, List.set_cons_succ]
              refine pure_ (i := 1) (N := some 70) (v := .int .i64 j) #[true, true, false, false, false, false, false, false, false, false, false, false, false, false, false, false, false, false, false, false, false, false, false, false, false, false, false, false, false, false, false, false, false, false, false] rfl rfl (by kernel_rfl) (fun _ _ _ h => h) (Or.inl ⟨wanted_none rfl, fun w => by rfl⟩) rfl ?_
              try simp only [Act.put, List.setIfInBounds_toArray, List.set_cons_zero, List.set_cons_succ]
              refine pure_ (i := 2) (N := some 71) (v := .pointer (some ⟨b, o + j * 3, Option.none⟩)) #[true, true, true, false, false, false, false, false, false, false, false, false, false, false, false, false, false, false, false, false, false, false, false, false, false, false, false, false, false, false, false, false, false, false, false] rfl rfl (by kernel_rfl) (fun _ _ _ h => h) (Or.inl ⟨wanted_none rfl, fun w => by go_simp⟩) rfl ?_
              try simp only [Act.put, List.setIfInBounds_toArray, List.set_cons_zero, List.set_cons_succ]
              refine pure_ (i := 3) (N := some 72) (v := .pointer (some ⟨b, o + j * 3, Option.none⟩)) #[true, true, true, true, false, false, false, false, false, false, false, false, false, false, false, false, false, false, false, false, false, false, false, false, false, false, false, false, false, false, false, false, false, false, false] rfl rfl (by kernel_rfl) (fun _ _ _ h => h) (Or.inl ⟨wanted_none rfl, fun w => by go_simp⟩) rfl ?_
              try simp only [Act.put, List.setIfInBounds_toArray, List.set_cons_zero, List.set_cons_succ]
              refine take_ (i := 4) (N := some 73) (v := .int .i64 1) #[true, true, true, true, true, false, false, false, false, false, false, false, false, false, false, false, false, false, false, false, false, false, false, false, false, false, false, false, false, false, false, false, false, false, false] rfl rfl (by kernel_rfl) (fun _ _ _ h => h) (Or.inl ⟨wanted_none rfl, by intro w' hSw; go_split_ands; go_simp⟩) hS0 rfl ?_
              try simp only [Act.put, List.setIfInBounds_toArray, List.set_cons_zero, List.set_cons_succ]
              refine pure_ (i := 5) (N := some 74) (v := .bool true) #[true, true, true, true, true, true, false, false, false, false, false, false, false, false, false, false, false, false, false, false, false, false, false, false, false, false, false, false, false, false, false, false, false, false, false] rfl rfl (by kernel_rfl) (fun _ _ _ h => h) (Or.inl ⟨wanted_none rfl, fun w => by go_simp⟩) rfl ?_
              try simp only [Act.put, List.setIfInBounds_toArray, List.set_cons_zero, List.set_cons_succ]
              refine pure_ (i := 6) (N := some 75) (v := .bool true) #[true, true, true, true, true, true, true, false, false, false, false, false, false, false, false, false, false, false, false, false, false, false, false, false, false, false, false, false, false, false, false, false, false, false, false] rfl rfl (by kernel_rfl) (fun _ _ _ h => h) (Or.inl ⟨wanted_none rfl, fun w => by rfl⟩) rfl ?_
              try simp only [Act.put, List.setIfInBounds_toArray, List.set_cons_zero, List.set_cons_succ]
              refine pure_ (i := 7) (N := some 76) (v := .pointer (some ⟨xb, 1, Option.none⟩)) #[true, true, true, true, true, true, true, true, false, false, false, false, false, false, false, false, false, false, false, false, false, false, false, false, false, false, false, false, false, false, false, false, false, false, false] rfl rfl (by kernel_rfl) (fun _ _ _ h => h) (Or.inl ⟨by rfl, fun w => by go_simp⟩) rfl ?_
              try simp only [Act.put, List.setIfInBounds_toArray, List.set_cons_zero, List.set_cons_succ]
              refine take_ (i := 8) (N := some 77) (v := .int .i64 nn) #[true, true, true, true, true, true, true, true, true, false, false, false, false, false, false, false, false, false, false, false, false, false, false, false, false, false, false, false, false, false, false, false, false, false, false] rfl rfl (by kernel_rfl) (fun _ _ _ h => h) (Or.inl ⟨by rfl, by intro w' hSw; go_split_ands; go_simp⟩) hS0 rfl ?_
              try simp only [Act.put, List.setIfInBounds_toArray, List.set_cons_zero, List.set_cons_succ]
              refine pure_ (i := 9) (N := some 78) (v := .slice (some ⟨b, o, Option.none⟩) got.length cN) #[true, true, true, true, true, true, true, true, true, true, false, false, false, false, false, false, false, false, false, false, false, false, false, false, false, false, false, false, false, false, false, false, false, false, false] rfl rfl (by kernel_rfl) (fun _ _ _ h => h) (Or.inl ⟨by rfl, fun w => by rfl⟩) rfl ?_
              try simp only [Act.put, List.setIfInBounds_toArray, List.set_cons_zero, List.set_cons_succ]
              refine pure_ (i := 10) (N := some 79) (v := .int .i64 j) #[true, true, true, true, true, true, true, true, true, true, true, false, false, false, false, false, false, false, false, false, false, false, false, false, false, false, false, false, false, false, false, false, false, false, false] rfl rfl (by kernel_rfl) (fun _ _ _ h => h) (Or.inl ⟨by rfl, fun w => by rfl⟩) rfl ?_
              try simp only [Act.put, List.setIfInBounds_toArray, List.set_cons_zero, List.set_cons_succ]
              refine pure_ (i := 11) (N := some 80) (v := .pointer (some ⟨b, o + j * 3, Option.none⟩)) #[true, true, true, true, true, true, true, true, true, true, true, true, false, false, false, false, false, false, false, false, false, false, false, false, false, false, false, false, false, false, false, false, false, false, false] rfl rfl (by kernel_rfl) (fun _ _ _ h => h) (Or.inl ⟨by rfl, fun w => by go_simp⟩) rfl ?_
              try simp only [Act.put, List.setIfInBounds_toArray, List.set_cons_zero, List.set_cons_succ]
              refine pure_ (i := 12) (N := some 81) (v := .pointer (some ⟨b, o + j * 3 + 1, Option.none⟩)) #[true, true, true, true, true, true, true, true, true, true, true, true, true, false, false, false, false, false, false, false, false, false, false, false, false, false, false, false, false, false, false, false, false, false, false] rfl rfl (by kernel_rfl) (fun _ _ _ h => h) (Or.inl ⟨by rfl, fun w => by go_simp⟩) rfl ?_
              try simp only [Act.put, List.setIfInBounds_toArray, List.set_cons_zero, List.set_cons_succ]
              refine take_ (i := 13) (N := some 82) (v := .int .i64 nn) #[true, true, true, true, true, true, true, true, true, true, true, true, true, true, false, false, false, false, false, false, false, false, false, false, false, false, false, false, false, false, false, false, false, false, false] rfl rfl (by kernel_rfl) (fun _ _ _ h => h) (Or.inl ⟨by rfl, by intro w' hSw; go_split_ands; go_simp⟩) hS0 rfl ?_
              try simp only [Act.put, List.setIfInBounds_toArray, List.set_cons_zero, List.set_cons_succ]
              refine pure_ (i := 14) (N := some 83) (v := .bool false) #[true, true, true, true, true, true, true, true, true, true, true, true, true, true, true, false, false, false, false, false, false, false, false, false, false, false, false, false, false, false, false, false, false, false, false] rfl rfl (by kernel_rfl) (fun _ _ _ h => h) (Or.inl ⟨by rfl, fun w => by go_simp⟩) rfl ?_
              try simp only [Act.put, List.setIfInBounds_toArray, List.set_cons_zero, List.set_cons_succ]
              refine pure_ (i := 15) (N := some 84) (v := .bool false) #[true, true, true, true, true, true, true, true, true, true, true, true, true, true, true, true, false, false, false, false, false, false, false, false, false, false, false, false, false, false, false, false, false, false, false] rfl rfl (by kernel_rfl) (fun _ _ _ h => h) (Or.inl ⟨wanted_none rfl, fun w => by go_simp⟩) rfl ?_
              try simp only [Act.put, List.setIfInBounds_toArray, List.set_cons_zero, List.set_cons_succ]
              refine pure_ (i := 16) (N := some 85) (v := .bool false) #[true, true, true, true, true, true, true, true, true, true, true, true, true, true, true, true, true, false, false, false, false, false, false, false, false, false, false, false, false, false, false, false, false, false, false] rfl rfl (by kernel_rfl) (fun _ _ _ h => h) (Or.inl ⟨wanted_none rfl, fun w => by rfl⟩) rfl ?_
              try simp only [Act.put, List.setIfInBounds_toArray, List.set_cons_zero, List.set_cons_succ]
              refine pure_ (i := 17) (N := some 86) (v := .slice (some ⟨b, o, Option.none⟩) got.length cN) #[true, true, true, true, true, true, true, true, true, true, true, true, true, true, true, true, true, true, false, false, false, false, false, false, false, false, false, false, false, false, false, false, false, false, false] rfl rfl (by kernel_rfl) (fun _ _ _ h => h) (Or.inl ⟨by rfl, fun w => by rfl⟩) rfl ?_
              try simp only [Act.put, List.setIfInBounds_toArray, List.set_cons_zero, List.set_cons_succ]
              refine pure_ (i := 18) (N := some 87) (v := .int .i64 j) #[true, true, true, true, true, true, true, true, true, true, true, true, true, true, true, true, true, true, true, false, false, false, false, false, false, false, false, false, false, false, false, false, false, false, false] rfl rfl (by kernel_rfl) (fun _ _ _ h => h) (Or.inl ⟨by rfl, fun w => by rfl⟩) rfl ?_
              try simp only [Act.put, List.setIfInBounds_toArray, List.set_cons_zero, List.set_cons_succ]
              refine pure_ (i := 19) (N := some 88) (v := .pointer (some ⟨b, o + j * 3, Option.none⟩)) #[true, true, true, true, true, true, true, true, true, true, true, true, true, true, true, true, true, true, true, true, false, false, false, false, false, false, false, false, false, false, false, false, false, false, false] rfl rfl (by kernel_rfl) (fun _ _ _ h => h) (Or.inl ⟨by rfl, fun w => by go_simp⟩) rfl ?_
              try simp only [Act.put, List.setIfInBounds_toArray, List.set_cons_zero, List.set_cons_succ]
              refine pure_ (i := 20) (N := some 89) (v := .pointer (some ⟨b, o + j * 3, Option.none⟩)) #[true, true, true, true, true, true, true, true, true, true, true, true, true, true, true, true, true, true, true, true, true, false, false, false, false, false, false, false, false, false, false, false, false, false, false] rfl rfl (by kernel_rfl) (fun _ _ _ h => h) (Or.inl ⟨by rfl, fun w => by go_simp⟩) rfl ?_
              try simp only [Act.put, List.setIfInBounds_toArray, List.set_cons_zero, List.set_cons_succ]
              refine take_ (i := 21) (N := some 90) (v := .int .i64 1) #[true, true, true, true, true, true, true, true, true, true, true, true, true, true, true, true, true, true, true, true, true, true, false, false, false, false, false, false, false, false, false, false, false, false, false] rfl rfl (by kernel_rfl) (fun _ _ _ h => h) (Or.inl ⟨by rfl, by intro w' hSw; go_split_ands; go_simp⟩) hS0 rfl ?_
              try simp only [Act.put, List.setIfInBounds_toArray, List.set_cons_zero, List.set_cons_succ]
              refine pure_ (i := 22) (N := some 91) (v := .bool false) #[true, true, true, true, true, true, true, true, true, true, true, true, true, true, true, true, true, true, true, true, true, true, true, false, false, false, false, false, false, false, false, false, false, false, false] rfl rfl (by kernel_rfl) (fun _ _ _ h => h) (Or.inl ⟨by rfl, fun w => by go_simp⟩) rfl ?_
              try simp only [Act.put, List.setIfInBounds_toArray, List.set_cons_zero, List.set_cons_succ]
              refine pure_ (i := 23) (N := some 92) (v := .bool false) #[true, true, true, true, true, true, true, true, true, true, true, true, true, true, true, true, true, true, true, true, true, true, true, true, false, false, false, false, false, false, false, false, false, false, false] rfl rfl (by kernel_rfl) (fun _ _ _ h => h) (Or.inl ⟨by rfl, fun w => by rfl⟩) rfl ?_
              try simp only [Act.put, List.setIfInBounds_toArray, List.set_cons_zero, List.set_cons_succ]
              refine pure_ (i := 24) (N := some 93) (v := undef) #[true, true, true, true, true, true, true, true, true, true, true, true, true, true, true, true, true, true, true, true, true, true, true, true, true, false, false, false, false, false, false, false, false, false, false] rfl rfl (by kernel_rfl) (fun _ _ _ h => h) (Or.inr ⟨by rfl, rfl⟩) rfl ?_
              try simp only [Act.put, List.setIfInBounds_toArray, List.set_cons_zero, List.set_cons_succ]
              refine pure_ (i := 25) (N := some 94) (v := undef) #[true, true, true, true, true, true, true, true, true, true, true, true, true, true, true, true, true, true, true, true, true, true, true, true, true, true, false, false, false, false, false, false, false, false, false] rfl rfl (by kernel_rfl) (fun _ _ _ h => h) (Or.inr ⟨by rfl, rfl⟩) rfl ?_
              try simp only [Act.put, List.setIfInBounds_toArray, List.set_cons_zero, List.set_cons_succ]
              refine pure_ (i := 26) (N := some 95) (v := undef) #[true, true, true, true, true, true, true, true, true, true, true, true, true, true, true, true, true, true, true, true, true, true, true, true, true, true, true, false, false, false, false, false, false, false, false] rfl rfl (by kernel_rfl) (fun _ _ _ h => h) (Or.inr ⟨by rfl, rfl⟩) rfl ?_
              try simp only [Act.put, List.setIfInBounds_toArray, List.set_cons_zero, List.set_cons_succ]
              refine pure_ (i := 27) (N := some 96) (v := undef) #[true, true, true, true, true, true, true, true, true, true, true, true, true, true, true, true, true, true, true, true, true, true, true, true, true, true, true, true, false, false, false, false, false, false, false] rfl rfl (by kernel_rfl) (fun _ _ _ h => h) (Or.inr ⟨by rfl, rfl⟩) rfl ?_
              try simp only [Act.put, List.setIfInBounds_toArray, List.set_cons_zero, List.set_cons_succ]
              refine pure_ (i := 28) (N := some 97) (v := undef) #[true, true, true, true, true, true, true, true, true, true, true, true, true, true, true, true, true, true, true, true, true, true, true, true, true, true, true, true, true, false, false, false, false, false, false] rfl rfl (by kernel_rfl) (fun _ _ _ h => h) (Or.inr ⟨by rfl, rfl⟩) rfl ?_
              try simp only [Act.put, List.setIfInBounds_toArray, List.set_cons_zero, List.set_cons_succ]
              refine pure_ (i := 29) (N := some 98) (v := undef) #[true, true, true, true, true, true, true, true, true, true, true, true, true, true, true, true, true, true, true, true, true, true, true, true, true, true, true, true, true, true, false, false, false, false, false] rfl rfl (by kernel_rfl) (fun _ _ _ h => h) (Or.inr ⟨by rfl, rfl⟩) rfl ?_
              try simp only [Act.put, List.setIfInBounds_toArray, List.set_cons_zero, List.set_cons_succ]
              refine pure_ (i := 30) (N := some 99) (v := undef) #[true, true, true, true, true, true, true, true, true, true, true, true, true, true, true, true, true, true, true, true, true, true, true, true, true, true, true, true, true, true, true, false, false, false, false] rfl rfl (by kernel_rfl) (fun _ _ _ h => h) (Or.inr ⟨by rfl, rfl⟩) rfl ?_
              try simp only [Act.put, List.setIfInBounds_toArray, List.set_cons_zero, List.set_cons_succ]
              refine pure_ (i := 31) (N := some 100) (v := undef) #[true, true, true, true, true, true, true, true, true, true, true, true, true, true, true, true, true, true, true, true, true, true, true, true, true, true, true, true, true, true, true, true, false, false, false] rfl rfl (by kernel_rfl) (fun _ _ _ h => h) (Or.inr ⟨by rfl, rfl⟩) rfl ?_
              try simp only [Act.put, List.setIfInBounds_toArray, List.set_cons_zero, List.set_cons_succ]
              refine pure_ (i := 32) (N := some 101) (v := undef) #[true, true, true, true, true, true, true, true, true, true, true, true, true, true, true, true, true, true, true, true, true, true, true, true, true, true, true, true, true, true, true, true, true, false, false] rfl rfl (by kernel_rfl) (fun _ _ _ h => h) (Or.inr ⟨by rfl, rfl⟩) rfl ?_
              try simp only [Act.put, List.setIfInBounds_toArray, List.set_cons_zero, List.set_cons_succ]
              refine pure_ (i := 33) (N := some 102) (v := .bool false) #[true, true, true, true, true, true, true, true, true, true, true, true, true, true, true, true, true, true, true, true, true, true, true, true, true, true, true, true, true, true, true, true, true, true, false] rfl rfl (by kernel_rfl) (fun _ _ _ h => h) (Or.inl ⟨by rfl, fun w => by go_simp⟩) rfl ?_
              try simp only [Act.put, List.setIfInBounds_toArray, List.set_cons_zero, List.set_cons_succ]
              refine pure_ (i := 34) (N := some 103) (v := .bool false) #[true, true, true, true, true, true, true, true, true, true, true, true, true, true, true, true, true, true, true, true, true, true, true, true, true, true, true, true, true, true, true, true, true, true, true] rfl rfl (by kernel_rfl) (fun _ _ _ h => h) (Or.inl ⟨wanted_none rfl, fun w => by go_simp⟩) rfl ?_
              try simp only [Act.put, List.setIfInBounds_toArray, List.set_cons_zero, List.set_cons_succ]
              refine done_ (by kernel_rfl) ?_
              go_wp2_with fail
              go_roundw
              case rel => exact ⟨j + 1, by omega, by go_num, by rw [HTJ.out, outF_snoc, List.length_append, HOUT1.out, ← HPP.out]; exact Rd.grew hs4 (Keeps.refl None w4).drew, hN4.keeps (Keeps.refl None w4).drew (fun _ _ f => f), hK4.trans (Keeps.refl None w4).drew⟩
              case measure => simp [intOf]; omega
            · subst hkd
              have hst : intStep zs ⟨P, 0, 0⟩ = (nn, ⟨P + (varF (zigF nn)).length, 0, 0⟩) := int_back (rest := outF (got.drop (j + 1))) (by rw [hdrop]; rfl) hgood.ok.n
              have hout1 : (It.out ⟨2, nn, Ay, ly, cy, bs⟩).length = (varF (zigF nn)).length := by first | rfl | (unfold It.out itemF; simp)
              have hQ := cread_int g' wa.heap.size v' zs ⟨P, 0, 0⟩ w2 hs2 hzr HBY.out
              rw [hst] at hQ
              simp only at hQ
              have HOUT1 := Lib.hid hout1
              clear hout1
              go_wp2_with fail
              refine hQ.mono ?_
              rintro e w3 ⟨A3, c3, rfl, n3, -, -, hs3, hk3⟩
              have hN3 := hN2.keeps hk3 (fun b' e' f => by have : b' = g' := f; have := (hNl b' e').2; omega)
              have hK3 : Keeps None w w3 := hK2.andThen hk3 (fun i hi e => by have : i = g' := e; omega)
              have hk34 : Keeps None w3 (w3.alloc (.cells #[.int .i64 2, .int .i64 nn, .slice A3 0 c3] 32)) := (Keeps.refl _ _).alloc _
              have hxb := Blk.new w3 32 [.int .i64 2, .int .i64 nn, .slice A3 0 c3]
              go_wp2_with fail
              obtain ⟨w4, hw4⟩ : ∃ w4, w4 = w3.alloc (.cells #[.int .i64 2, .int .i64 nn, .slice A3 0 c3] 32) := ⟨_, rfl⟩
              obtain ⟨xb, hxbe⟩ : ∃ xb, xb = w3.heap.size := ⟨_, rfl⟩
              have hxb : Blk w4 xb 32 [.int .i64 2, .int .i64 nn, .slice A3 0 c3] := by rw [hw4, hxbe]; exact hxb
              have hk34 : Keeps None w3 w4 := by rw [hw4]; exact hk34
              have hN4 := hN3.keeps hk34 (fun _ _ f => f)
              have hs4 : St.at ⟨P + (varF (zigF nn)).length, 0, 0⟩ w4 g' wa.heap.size v' zs := Rd.grew hs3 hk34
              have hK4 := hK3.trans hk34
              have n3 := n3.grew hk34
              obtain ⟨A', c', ev', hc', hI4⟩ := hN4.open_
              cases ev'
              obtain ⟨b', o', eb, q0, q1, q2⟩ := hI4 j _ HXJ.out
              simp only at q0 q1 q2
              obtain ⟨rfl, rfl⟩ : b = b' ∧ o = o' := by cases eb; exact ⟨rfl, rfl⟩
              have r1 := hxb.cell 1 _ rfl
              have r2 := hxb.cell 2 _ rfl
              have held : ∀ w', Keeps None w4 w' → (w'.cell? ⟨b, o + j * 3, Option.none⟩ = some (.int .i64 2) ∧ w'.cell? ⟨b, o + j * 3 + 1, Option.none⟩ = some (.int .i64 nn) ∧ w'.cell? ⟨b, o + j * 3 + 2, Option.none⟩ = some (.slice Ay ly cy) ∧ w'.cell? ⟨xb, 1, Option.none⟩ = some (.int .i64 nn) ∧ w'.cell? ⟨xb, 2, Option.none⟩ = some (.slice A3 0 c3)) := fun w' h => ⟨h.cell q0 id, h.cell q1 id, h.cell q2 id, h.cell r1 id, h.cell r2 id⟩
              have HELD := Lib.hid held
              have HBL : Hid (bs.length = ly) := Lib.hid hgood.ok.len
              have HBY2 : Hid (∀ w', Keeps None w4 w' → Nums .u8 w' Ay bs) := Lib.hid (fun w' h => hgood.ok.nums.grew (hK4.trans h))
              have hly : ly ≤ 65536 := hgood.ok.long
              clear held hst hQ
              rw [← hw4, ← hxbe]
              clear hw4 hxbe
              refine start_ (ds := []) (S := (fun w' => w'.cell? ⟨b, o + j * 3, Option.none⟩ = some (.int .i64 2) ∧ w'.cell? ⟨b, o + j * 3 + 1, Option.none⟩ = some (.int .i64 nn) ∧ w'.cell? ⟨b, o + j * 3 + 2, Option.none⟩ = some (.slice Ay ly cy) ∧ w'.cell? ⟨xb, 1, Option.none⟩ = some (.int .i64 nn) ∧ w'.cell? ⟨xb, 2, Option.none⟩ = some (.slice A3 0 c3))) #[false, false, false, false, false, false, false, false, false, false, false, false, false, false, false, false, false, false, false, false, false, false, false, false, false, false, false, false, false, false, false, false, false, false, false] (by kernel_rfl) rfl rfl (HELD.out _ (Keeps.refl _ _).drew) (fun hS0 => ?_)
              refine pure_ (i := 0) (N := some 69) (v := .slice (some ⟨b, o, Option.none⟩) got.length cN) #[true, false, false, false, false, false, false, false, false, false, false, false, false, false, false, false, false, false, false, false, false, false, false, false, false, false, false, false, false, false, false, false, false, false, false] rfl rfl (by kernel_rfl) (fun _ _ _ h => h) (Or.inl ⟨wanted_none rfl, fun w => by rfl⟩) rfl ?_
              try simp only [Act.put, List.setIfInBounds_toArray, List.set_cons_zero, List.set_cons_succ]
              refine pure_ (i := 1) (N := some 70) (v := .int .i64 j) #[true, true, false, false, false, false, false, false, false, false, false, false, false, false, false, false, false, false, false, false, false, false, false, false, false, false, false, false, false, false, false, false, false, false, false] rfl rfl (by kernel_rfl) (fun _ _ _ h => h) (Or.inl ⟨wanted_none rfl, fun w => by rfl⟩) rfl ?_
              try simp only [Act.put, List.setIfInBounds_toArray, List.set_cons_zero, List.set_cons_succ]
              refine pure_ (i := 2) (N := some 71) (v := .pointer (some ⟨b, o + j * 3, Option.none⟩)) #[true, true, true, false, false, false, false, false, false, false, false, false, false, false, false, false, false, false, false, false, false, false, false, false, false, false, false, false, false, false, false, false, false, false, false] rfl rfl (by kernel_rfl) (fun _ _ _ h => h) (Or.inl ⟨wanted_none rfl, fun w => by go_simp⟩) rfl ?_
              try simp only [Act.put, List.setIfInBounds_toArray, List.set_cons_zero, List.set_cons_succ]
              refine pure_ (i := 3) (N := some 72) (v := .pointer (some ⟨b, o + j * 3, Option.none⟩)) #[true, true, true, true, false, false, false, false, false, false, false, false, false, false, false, false, false, false, false, false, false, false, false, false, false, false, false, false, false, false, false, false, false, false, false] rfl rfl (by kernel_rfl) (fun _ _ _ h => h) (Or.inl ⟨wanted_none rfl, fun w => by go_simp⟩) rfl ?_
              try simp only [Act.put, List.setIfInBounds_toArray, List.set_cons_zero, List.set_cons_succ]
              refine take_ (i := 4) (N := some 73) (v := .int .i64 2) #[true, true, true, true, true, false, false, false, false, false, false, false, false, false, false, false, false, false, false, false, false, false, false, false, false, false, false, false, false, false, false, false, false, false, false] rfl rfl (by kernel_rfl) (fun _ _ _ h => h) (Or.inl ⟨wanted_none rfl, by intro w' hSw; go_split_ands; go_simp⟩) hS0 rfl ?_
              try simp only [Act.put, List.setIfInBounds_toArray, List.set_cons_zero, List.set_cons_succ]
              refine pure_ (i := 5) (N := some 74) (v := .bool true) #[true, true, true, true, true, true, false, false, false, false, false, false, false, false, false, false, false, false, false, false, false, false, false, false, false, false, false, false, false, false, false, false, false, false, false] rfl rfl (by kernel_rfl) (fun _ _ _ h => h) (Or.inl ⟨wanted_none rfl, fun w => by go_simp⟩) rfl ?_
              try simp only [Act.put, List.setIfInBounds_toArray, List.set_cons_zero, List.set_cons_succ]
              refine pure_ (i := 6) (N := some 75) (v := .bool true) #[true, true, true, true, true, true, true, false, false, false, false, false, false, false, false, false, false, false, false, false, false, false, false, false, false, false, false, false, false, false, false, false, false, false, false] rfl rfl (by kernel_rfl) (fun _ _ _ h => h) (Or.inl ⟨wanted_none rfl, fun w => by rfl⟩) rfl ?_
              try simp only [Act.put, List.setIfInBounds_toArray, List.set_cons_zero, List.set_cons_succ]
              refine pure_ (i := 7) (N := some 76) (v := .pointer (some ⟨xb, 1, Option.none⟩)) #[true, true, true, true, true, true, true, true, false, false, false, false, false, false, false, false, false, false, false, false, false, false, false, false, false, false, false, false, false, false, false, false, false, false, false] rfl rfl (by kernel_rfl) (fun _ _ _ h => h) (Or.inl ⟨by rfl, fun w => by go_simp⟩) rfl ?_
              try simp only [Act.put, List.setIfInBounds_toArray, List.set_cons_zero, List.set_cons_succ]
              refine take_ (i := 8) (N := some 77) (v := .int .i64 nn) #[true, true, true, true, true, true, true, true, true, false, false, false, false, false, false, false, false, false, false, false, false, false, false, false, false, false, false, false, false, false, false, false, false, false, false] rfl rfl (by kernel_rfl) (fun _ _ _ h => h) (Or.inl ⟨by rfl, by intro w' hSw; go_split_ands; go_simp⟩) hS0 rfl ?_
              try simp only [Act.put, List.setIfInBounds_toArray, List.set_cons_zero, List.set_cons_succ]
              refine pure_ (i := 9) (N := some 78) (v := .slice (some ⟨b, o, Option.none⟩) got.length cN) #[true, true, true, true, true, true, true, true, true, true, false, false, false, false, false, false, false, false, false, false, false, false, false, false, false, false, false, false, false, false, false, false, false, false, false] rfl rfl (by kernel_rfl) (fun _ _ _ h => h) (Or.inl ⟨by rfl, fun w => by rfl⟩) rfl ?_
              try simp only [Act.put, List.setIfInBounds_toArray, List.set_cons_zero, List.set_cons_succ]
              refine pure_ (i := 10) (N := some 79) (v := .int .i64 j) #[true, true, true, true, true, true, true, true, true, true, true, false, false, false, false, false, false, false, false, false, false, false, false, false, false, false, false, false, false, false, false, false, false, false, false] rfl rfl (by kernel_rfl) (fun _ _ _ h => h) (Or.inl ⟨by rfl, fun w => by rfl⟩) rfl ?_
              try simp only [Act.put, List.setIfInBounds_toArray, List.set_cons_zero, List.set_cons_succ]
              refine pure_ (i := 11) (N := some 80) (v := .pointer (some ⟨b, o + j * 3, Option.none⟩)) #[true, true, true, true, true, true, true, true, true, true, true, true, false, false, false, false, false, false, false, false, false, false, false, false, false, false, false, false, false, false, false, false, false, false, false] rfl rfl (by kernel_rfl) (fun _ _ _ h => h) (Or.inl ⟨by rfl, fun w => by go_simp⟩) rfl ?_
              try simp only [Act.put, List.setIfInBounds_toArray, List.set_cons_zero, List.set_cons_succ]
              refine pure_ (i := 12) (N := some 81) (v := .pointer (some ⟨b, o + j * 3 + 1, Option.none⟩)) #[true, true, true, true, true, true, true, true, true, true, true, true, true, false, false, false, false, false, false, false, false, false, false, false, false, false, false, false, false, false, false, false, false, false, false] rfl rfl (by kernel_rfl) (fun _ _ _ h => h) (Or.inl ⟨by rfl, fun w => by go_simp⟩) rfl ?_
              try simp only [Act.put, List.setIfInBounds_toArray, List.set_cons_zero, List.set_cons_succ]
              refine take_ (i := 13) (N := some 82) (v := .int .i64 nn) #[true, true, true, true, true, true, true, true, true, true, true, true, true, true, false, false, false, false, false, false, false, false, false, false, false, false, false, false, false, false, false, false, false, false, false] rfl rfl (by kernel_rfl) (fun _ _ _ h => h) (Or.inl ⟨by rfl, by intro w' hSw; go_split_ands; go_simp⟩) hS0 rfl ?_
              try simp only [Act.put, List.setIfInBounds_toArray, List.set_cons_zero, List.set_cons_succ]
              refine pure_ (i := 14) (N := some 83) (v := .bool false) #[true, true, true, true, true, true, true, true, true, true, true, true, true, true, true, false, false, false, false, false, false, false, false, false, false, false, false, false, false, false, false, false, false, false, false] rfl rfl (by kernel_rfl) (fun _ _ _ h => h) (Or.inl ⟨by rfl, fun w => by go_simp⟩) rfl ?_
              try simp only [Act.put, List.setIfInBounds_toArray, List.set_cons_zero, List.set_cons_succ]
              refine pure_ (i := 15) (N := some 84) (v := .bool false) #[true, true, true, true, true, true, true, true, true, true, true, true, true, true, true, true, false, false, false, false, false, false, false, false, false, false, false, false, false, false, false, false, false, false, false] rfl rfl (by kernel_rfl) (fun _ _ _ h => h) (Or.inl ⟨wanted_none rfl, fun w => by go_simp⟩) rfl ?_
              try simp only [Act.put, List.setIfInBounds_toArray, List.set_cons_zero, List.set_cons_succ]
              refine pure_ (i := 16) (N := some 85) (v := .bool false) #[true, true, true, true, true, true, true, true, true, true, true, true, true, true, true, true, true, false, false, false, false, false, false, false, false, false, false, false, false, false, false, false, false, false, false] rfl rfl (by kernel_rfl) (fun _ _ _ h => h) (Or.inl ⟨wanted_none rfl, fun w => by rfl⟩) rfl ?_
              try simp only [Act.put, List.setIfInBounds_toArray, List.set_cons_zero, List.set_cons_succ]
              refine pure_ (i := 17) (N := some 86) (v := .slice (some ⟨b, o, Option.none⟩) got.length cN) #[true, true, true, true, true, true, true, true, true, true, true, true, true, true, true, true, true, true, false, false, false, false, false, false, false, false, false, false, false, false, false, false, false, false, false] rfl rfl (by kernel_rfl) (fun _ _ _ h => h) (Or.inl ⟨by rfl, fun w => by rfl⟩) rfl ?_
              try simp only [Act.put, List.setIfInBounds_toArray, List.set_cons_zero, List.set_cons_succ]
              refine pure_ (i := 18) (N := some 87) (v := .int .i64 j) #[true, true, true, true, true, true, true, true, true, true, true, true, true, true, true, true, true, true, true, false, false, false, false, false, false, false, false, false, false, false, false, false, false, false, false] rfl rfl (by kernel_rfl) (fun _ _ _ h => h) (Or.inl ⟨by rfl, fun w => by rfl⟩) rfl ?_
              try simp only [Act.put, List.setIfInBounds_toArray, List.set_cons_zero, List.set_cons_succ]
              refine pure_ (i := 19) (N := some 88) (v := .pointer (some ⟨b, o + j * 3, Option.none⟩)) #[true, true, true, true, true, true, true, true, true, true, true, true, true, true, true, true, true, true, true, true, false, false, false, false, false, false, false, false, false, false, false, false, false, false, false] rfl rfl (by kernel_rfl) (fun _ _ _ h => h) (Or.inl ⟨by rfl, fun w => by go_simp⟩) rfl ?_
              try simp only [Act.put, List.setIfInBounds_toArray, List.set_cons_zero, List.set_cons_succ]
              refine pure_ (i := 20) (N := some 89) (v := .pointer (some ⟨b, o + j * 3, Option.none⟩)) #[true, true, true, true, true, true, true, true, true, true, true, true, true, true, true, true, true, true, true, true, true, false, false, false, false, false, false, false, false, false, false, false, false, false, false] rfl rfl (by kernel_rfl) (fun _ _ _ h => h) (Or.inl ⟨by rfl, fun w => by go_simp⟩) rfl ?_
              try simp only [Act.put, List.setIfInBounds_toArray, List.set_cons_zero, List.set_cons_succ]
              refine take_ (i := 21) (N := some 90) (v := .int .i64 2) #[true, true, true, true, true, true, true, true, true, true, true, true, true, true, true, true, true, true, true, true, true, true, false, false, false, false, false, false, false, false, false, false, false, false, false] rfl rfl (by kernel_rfl) (fun _ _ _ h => h) (Or.inl ⟨by rfl, by intro w' hSw; go_split_ands; go_simp⟩) hS0 rfl ?_
              try simp only [Act.put, List.setIfInBounds_toArray, List.set_cons_zero, List.set_cons_succ]
              refine pure_ (i := 22) (N := some 91) (v := .bool false) #[true, true, true, true, true, true, true, true, true, true, true, true, true, true, true, true, true, true, true, true, true, true, true, false, false, false, false, false, false, false, false, false, false, false, false] rfl rfl (by kernel_rfl) (fun _ _ _ h => h) (Or.inl ⟨by rfl, fun w => by go_simp⟩) rfl ?_
              try simp only [Act.put, List.setIfInBounds_toArray, List.set_cons_zero, List.set_cons_succ]
              refine pure_ (i := 23) (N := some 92) (v := .bool false) #[true, true, true, true, true, true, true, true, true, true, true, true, true, true, true, true, true, true, true, true, true, true, true, true, false, false, false, false, false, false, false, false, false, false, false] rfl rfl (by kernel_rfl) (fun _ _ _ h => h) (Or.inl ⟨by rfl, fun w => by rfl⟩) rfl ?_
              try simp only [Act.put, List.setIfInBounds_toArray, List.set_cons_zero, List.set_cons_succ]
              refine pure_ (i := 24) (N := some 93) (v := undef) #[true, true, true, true, true, true, true, true, true, true, true, true, true, true, true, true, true, true, true, true, true, true, true, true, true, false, false, false, false, false, false, false, false, false, false] rfl rfl (by kernel_rfl) (fun _ _ _ h => h) (Or.inr ⟨by rfl, rfl⟩) rfl ?_
              try simp only [Act.put, List.setIfInBounds_toArray, List.set_cons_zero, List.set_cons_succ]
              refine pure_ (i := 25) (N := some 94) (v := undef) #[true, true, true, true, true, true, true, true, true, true, true, true, true, true, true, true, true, true, true, true, true, true, true, true, true, true, false, false, false, false, false, false, false, false, false] rfl rfl (by kernel_rfl) (fun _ _ _ h => h) (Or.inr ⟨by rfl, rfl⟩) rfl ?_
              try simp only [Act.put, List.setIfInBounds_toArray, List.set_cons_zero, List.set_cons_succ]
              refine pure_ (i := 26) (N := some 95) (v := undef) #[true, true, true, true, true, true, true, true, true, true, true, true, true, true, true, true, true, true, true, true, true, true, true, true, true, true, true, false, false, false, false, false, false, false, false] rfl rfl (by kernel_rfl) (fun _ _ _ h => h) (Or.inr ⟨by rfl, rfl⟩) rfl ?_
              try simp only [Act.put, List.setIfInBounds_toArray, List.set_cons_zero, List.set_cons_succ]
              refine pure_ (i := 27) (N := some 96) (v := undef) #[true, true, true, true, true, true, true, true, true, true, true, true, true, true, true, true, true, true, true, true, true, true, true, true, true, true, true, true, false, false, false, false, false, false, false] rfl rfl (by kernel_rfl) (fun _ _ _ h => h) (Or.inr ⟨by rfl, rfl⟩) rfl ?_
              try simp only [Act.put, List.setIfInBounds_toArray, List.set_cons_zero, List.set_cons_succ]
              refine pure_ (i := 28) (N := some 97) (v := undef) #[true, true, true, true, true, true, true, true, true, true, true, true, true, true, true, true, true, true, true, true, true, true, true, true, true, true, true, true, true, false, false, false, false, false, false] rfl rfl (by kernel_rfl) (fun _ _ _ h => h) (Or.inr ⟨by rfl, rfl⟩) rfl ?_
              try simp only [Act.put, List.setIfInBounds_toArray, List.set_cons_zero, List.set_cons_succ]
              refine pure_ (i := 29) (N := some 98) (v := undef) #[true, true, true, true, true, true, true, true, true, true, true, true, true, true, true, true, true, true, true, true, true, true, true, true, true, true, true, true, true, true, false, false, false, false, false] rfl rfl (by kernel_rfl) (fun _ _ _ h => h) (Or.inr ⟨by rfl, rfl⟩) rfl ?_
              try simp only [Act.put, List.setIfInBounds_toArray, List.set_cons_zero, List.set_cons_succ]
              refine pure_ (i := 30) (N := some 99) (v := undef) #[true, true, true, true, true, true, true, true, true, true, true, true, true, true, true, true, true, true, true, true, true, true, true, true, true, true, true, true, true, true, true, false, false, false, false] rfl rfl (by kernel_rfl) (fun _ _ _ h => h) (Or.inr ⟨by rfl, rfl⟩) rfl ?_
              try simp only [Act.put, List.setIfInBounds_toArray, List.set_cons_zero, List.set_cons_succ]
              refine pure_ (i := 31) (N := some 100) (v := undef) #[true, true, true, true, true, true, true, true, true, true, true, true, true, true, true, true, true, true, true, true, true, true, true, true, true, true, true, true, true, true, true, true, false, false, false] rfl rfl (by kernel_rfl) (fun _ _ _ h => h) (Or.inr ⟨by rfl, rfl⟩) rfl ?_
              try simp only [Act.put, List.setIfInBounds_toArray, List.set_cons_zero, List.set_cons_succ]
              refine pure_ (i := 32) (N := some 101) (v := undef) #[true, true, true, true, true, true, true, true, true, true, true, true, true, true, true, true, true, true, true, true, true, true, true, true, true, true, true, true, true, true, true, true, true, false, false] rfl rfl (by kernel_rfl) (fun _ _ _ h => h) (Or.inr ⟨by rfl, rfl⟩) rfl ?_
              try simp only [Act.put, List.setIfInBounds_toArray, List.set_cons_zero, List.set_cons_succ]
              refine pure_ (i := 33) (N := some 102) (v := .bool false) #[true, true, true, true, true, true, true, true, true, true, true, true, true, true, true, true, true, true, true, true, true, true, true, true, true, true, true, true, true, true, true, true, true, true, false] rfl rfl (by kernel_rfl) (fun _ _ _ h => h) (Or.inl ⟨by rfl, fun w => by go_simp⟩) rfl ?_
              try simp only [Act.put, List.setIfInBounds_toArray, List.set_cons_zero, List.set_cons_succ]
              refine pure_ (i := 34) (N := some 103) (v := .bool false) #[true, true, true, true, true, true, true, true, true, true, true, true, true, true, true, true, true, true, true, true, true, true, true, true, true, true, true, true, true, true, true, true, true, true, true] rfl rfl (by kernel_rfl) (fun _ _ _ h => h) (Or.inl ⟨wanted_none rfl, fun w => by go_simp⟩) rfl ?_
              try simp only [Act.put, List.setIfInBounds_toArray, List.set_cons_zero, List.set_cons_succ]
              refine done_ (by kernel_rfl) ?_
              go_wp2_with fail
              go_roundw
              case rel => exact ⟨j + 1, by omega, by go_num, by rw [HTJ.out, outF_snoc, List.length_append, HOUT1.out, ← HPP.out]; exact Rd.grew hs4 (Keeps.refl None w4).drew, hN4.keeps (Keeps.refl None w4).drew (fun _ _ f => f), hK4.trans (Keeps.refl None w4).drew⟩
              case measure => simp [intOf]; omega
            · subst hkd
              have hst : bytStep zs ⟨P, 0, 0⟩ = (bs, ⟨P + ((varF bs.length).length + bs.length), 0, 0⟩) := byt_back (rest := outF (got.drop (j + 1))) (by rw [hdrop]; rfl) (by have := hgood.ok.long; have := hgood.ok.len; simp only at *; omega) hple
              have hout1 : (It.out ⟨3, nn, Ay, ly, cy, bs⟩).length = ((varF bs.length).length + bs.length) := by first | rfl | (unfold It.out itemF; simp)
              have hQ := cread_byt g' wa.heap.size v' zs ⟨P, 0, 0⟩ w2 hs2 hzr HBY.out
              rw [hst] at hQ
              simp only at hQ
              have HOUT1 := Lib.hid hout1
              clear hout1
              go_wp2_with fail
              refine hQ.mono ?_
              rintro e w3 ⟨A3, c3, rfl, n3, -, -, hs3, hk3⟩
              have hN3 := hN2.keeps hk3 (fun b' e' f => by have : b' = g' := f; have := (hNl b' e').2; omega)
              have hK3 : Keeps None w w3 := hK2.andThen hk3 (fun i hi e => by have : i = g' := e; omega)
              have hk34 : Keeps None w3 (w3.alloc (.cells #[.int .i64 3, .int .i64 0, .slice A3 bs.length c3] 32)) := (Keeps.refl _ _).alloc _
              have hxb := Blk.new w3 32 [.int .i64 3, .int .i64 0, .slice A3 bs.length c3]
              go_wp2_with fail
              obtain ⟨w4, hw4⟩ : ∃ w4, w4 = w3.alloc (.cells #[.int .i64 3, .int .i64 0, .slice A3 bs.length c3] 32) := ⟨_, rfl⟩
              obtain ⟨xb, hxbe⟩ : ∃ xb, xb = w3.heap.size := ⟨_, rfl⟩
              have hxb : Blk w4 xb 32 [.int .i64 3, .int .i64 0, .slice A3 bs.length c3] := by rw [hw4, hxbe]; exact hxb
              have hk34 : Keeps None w3 w4 := by rw [hw4]; exact hk34
              have hN4 := hN3.keeps hk34 (fun _ _ f => f)
              have hs4 : St.at ⟨P + ((varF bs.length).length + bs.length), 0, 0⟩ w4 g' wa.heap.size v' zs := Rd.grew hs3 hk34
              have hK4 := hK3.trans hk34
              have n3 := n3.grew hk34
              obtain ⟨A', c', ev', hc', hI4⟩ := hN4.open_
              cases ev'
              obtain ⟨b', o', eb, q0, q1, q2⟩ := hI4 j _ HXJ.out
              simp only at q0 q1 q2
              obtain ⟨rfl, rfl⟩ : b = b' ∧ o = o' := by cases eb; exact ⟨rfl, rfl⟩
              have r1 := hxb.cell 1 _ rfl
              have r2 := hxb.cell 2 _ rfl
              have held : ∀ w', Keeps None w4 w' → (w'.cell? ⟨b, o + j * 3, Option.none⟩ = some (.int .i64 3) ∧ w'.cell? ⟨b, o + j * 3 + 1, Option.none⟩ = some (.int .i64 nn) ∧ w'.cell? ⟨b, o + j * 3 + 2, Option.none⟩ = some (.slice Ay ly cy) ∧ w'.cell? ⟨xb, 1, Option.none⟩ = some (.int .i64 0) ∧ w'.cell? ⟨xb, 2, Option.none⟩ = some (.slice A3 bs.length c3)) := fun w' h => ⟨h.cell q0 id, h.cell q1 id, h.cell q2 id, h.cell r1 id, h.cell r2 id⟩
              have HELD := Lib.hid held
              have HBL : Hid (bs.length = ly) := Lib.hid hgood.ok.len
              have HBY2 : Hid (∀ w', Keeps None w4 w' → Nums .u8 w' Ay bs) := Lib.hid (fun w' h => hgood.ok.nums.grew (hK4.trans h))
              have hly : ly ≤ 65536 := hgood.ok.long
              clear held hst hQ
              rw [← hw4, ← hxbe]
              clear hw4 hxbe
              refine start_ (ds := []) (S := (fun w' => w'.cell? ⟨b, o + j * 3, Option.none⟩ = some (.int .i64 3) ∧ w'.cell? ⟨b, o + j * 3 + 1, Option.none⟩ = some (.int .i64 nn) ∧ w'.cell? ⟨b, o + j * 3 + 2, Option.none⟩ = some (.slice Ay ly cy) ∧ w'.cell? ⟨xb, 1, Option.none⟩ = some (.int .i64 0) ∧ w'.cell? ⟨xb, 2, Option.none⟩ = some (.slice A3 bs.length c3))) #[false, false, false, false, false, false, false, false, false, false, false, false, false, false, false, false, false, false, false, false, false, false, false, false, false, false, false, false, false, false, false, false, false, false, false] (by kernel_rfl) rfl rfl (HELD.out _ (Keeps.refl _ _).drew) (fun hS0 => ?_)
              refine pure_ (i := 0) (N := some 69) (v := .slice (some ⟨b, o, Option.none⟩) got.length cN) #[true, false, false, false, false, false, false, false, false, false, false, false, false, false, false, false, false, false, false, false, false, false, false, false, false, false, false, false, false, false, false, false, false, false, false] rfl rfl (by kernel_rfl) (fun _ _ _ h => h) (Or.inl ⟨wanted_none rfl, fun w => by rfl⟩) rfl ?_
              try simp only [Act.put, List.setIfInBounds_toArray, List.set_cons_zero, List.set_cons_succ]
              refine pure_ (i := 1) (N := some 70) (v := .int .i64 j) #[true, true, false, false, false, false, false, false, false, false, false, false, false, false, false, false, false, false, false, false, false, false, false, false, false, false, false, false, false, false, false, false, false, false, false] rfl rfl (by kernel_rfl) (fun _ _ _ h => h) (Or.inl ⟨wanted_none rfl, fun w => by rfl⟩) rfl ?_
              try simp only [Act.put, List.setIfInBounds_toArray, List.set_cons_zero, List.set_cons_succ]
              refine pure_ (i := 2) (N := some 71) (v := .pointer (some ⟨b, o + j * 3, Option.none⟩)) #[true, true, true, false, false, false, false, false, false, false, false, false, false, false, false, false, false, false, false, false, false, false, false, false, false, false, false, false, false, false, false, false, false, false, false] rfl rfl (by kernel_rfl) (fun _ _ _ h => h) (Or.inl ⟨wanted_none rfl, fun w => by go_simp⟩) rfl ?_
              try simp only [Act.put, List.setIfInBounds_toArray, List.set_cons_zero, List.set_cons_succ]
              refine pure_ (i := 3) (N := some 72) (v := .pointer (some ⟨b, o + j * 3, Option.none⟩)) #[true, true, true, true, false, false, false, false, false, false, false, false, false, false, false, false, false, false, false, false, false, false, false, false, false, false, false, false, false, false, false, false, false, false, false] rfl rfl (by kernel_rfl) (fun _ _ _ h => h) (Or.inl ⟨wanted_none rfl, fun w => by go_simp⟩) rfl ?_
              try simp only [Act.put, List.setIfInBounds_toArray, List.set_cons_zero, List.set_cons_succ]
              refine take_ (i := 4) (N := some 73) (v := .int .i64 3) #[true, true, true, true, true, false, false, false, false, false, false, false, false, false, false, false, false, false, false, false, false, false, false, false, false, false, false, false, false, false, false, false, false, false, false] rfl rfl (by kernel_rfl) (fun _ _ _ h => h) (Or.inl ⟨wanted_none rfl, by intro w' hSw; go_split_ands; go_simp⟩) hS0 rfl ?_
              try simp only [Act.put, List.setIfInBounds_toArray, List.set_cons_zero, List.set_cons_succ]
              refine pure_ (i := 5) (N := some 74) (v := .bool false) #[true, true, true, true, true, true, false, false, false, false, false, false, false, false, false, false, false, false, false, false, false, false, false, false, false, false, false, false, false, false, false, false, false, false, false] rfl rfl (by kernel_rfl) (fun _ _ _ h => h) (Or.inl ⟨wanted_none rfl, fun w => by go_simp⟩) rfl ?_
              try simp only [Act.put, List.setIfInBounds_toArray, List.set_cons_zero, List.set_cons_succ]
              refine pure_ (i := 6) (N := some 75) (v := .bool false) #[true, true, true, true, true, true, true, false, false, false, false, false, false, false, false, false, false, false, false, false, false, false, false, false, false, false, false, false, false, false, false, false, false, false, false] rfl rfl (by kernel_rfl) (fun _ _ _ h => h) (Or.inl ⟨wanted_none rfl, fun w => by rfl⟩) rfl ?_
              try simp only [Act.put, List.setIfInBounds_toArray, List.set_cons_zero, List.set_cons_succ]
              refine pure_ (i := 7) (N := some 76) (v := undef) #[true, true, true, true, true, true, true, true, false, false, false, false, false, false, false, false, false, false, false, false, false, false, false, false, false, false, false, false, false, false, false, false, false, false, false] rfl rfl (by kernel_rfl) (fun _ _ _ h => h) (Or.inr ⟨by rfl, rfl⟩) rfl ?_
              try simp only [Act.put, List.setIfInBounds_toArray, List.set_cons_zero, List.set_cons_succ]
              refine pure_ (i := 8) (N := some 77) (v := undef) #[true, true, true, true, true, true, true, true, true, false, false, false, false, false, false, false, false, false, false, false, false, false, false, false, false, false, false, false, false, false, false, false, false, false, false] rfl rfl (by kernel_rfl) (fun _ _ _ h => h) (Or.inr ⟨by rfl, rfl⟩) rfl ?_
              try simp only [Act.put, List.setIfInBounds_toArray, List.set_cons_zero, List.set_cons_succ]
              refine pure_ (i := 9) (N := some 78) (v := undef) #[true, true, true, true, true, true, true, true, true, true, false, false, false, false, false, false, false, false, false, false, false, false, false, false, false, false, false, false, false, false, false, false, false, false, false] rfl rfl (by kernel_rfl) (fun _ _ _ h => h) (Or.inr ⟨by rfl, rfl⟩) rfl ?_
              try simp only [Act.put, List.setIfInBounds_toArray, List.set_cons_zero, List.set_cons_succ]
              refine pure_ (i := 10) (N := some 79) (v := undef) #[true, true, true, true, true, true, true, true, true, true, true, false, false, false, false, false, false, false, false, false, false, false, false, false, false, false, false, false, false, false, false, false, false, false, false] rfl rfl (by kernel_rfl) (fun _ _ _ h => h) (Or.inr ⟨by rfl, rfl⟩) rfl ?_
              try simp only [Act.put, List.setIfInBounds_toArray, List.set_cons_zero, List.set_cons_succ]
              refine pure_ (i := 11) (N := some 80) (v := undef) #[true, true, true, true, true, true, true, true, true, true, true, true, false, false, false, false, false, false, false, false, false, false, false, false, false, false, false, false, false, false, false, false, false, false, false] rfl rfl (by kernel_rfl) (fun _ _ _ h => h) (Or.inr ⟨by rfl, rfl⟩) rfl ?_
              try simp only [Act.put, List.setIfInBounds_toArray, List.set_cons_zero, List.set_cons_succ]
              refine pure_ (i := 12) (N := some 81) (v := undef) #[true, true, true, true, true, true, true, true, true, true, true, true, true, false, false, false, false, false, false, false, false, false, false, false, false, false, false, false, false, false, false, false, false, false, false] rfl rfl (by kernel_rfl) (fun _ _ _ h => h) (Or.inr ⟨by rfl, rfl⟩) rfl ?_
              try simp only [Act.put, List.setIfInBounds_toArray, List.set_cons_zero, List.set_cons_succ]
              refine pure_ (i := 13) (N := some 82) (v := undef) #[true, true, true, true, true, true, true, true, true, true, true, true, true, true, false, false, false, false, false, false, false, false, false, false, false, false, false, false, false, false, false, false, false, false, false] rfl rfl (by kernel_rfl) (fun _ _ _ h => h) (Or.inr ⟨by rfl, rfl⟩) rfl ?_
              try simp only [Act.put, List.setIfInBounds_toArray, List.set_cons_zero, List.set_cons_succ]
              refine pure_ (i := 14) (N := some 83) (v := undef) #[true, true, true, true, true, true, true, true, true, true, true, true, true, true, true, false, false, false, false, false, false, false, false, false, false, false, false, false, false, false, false, false, false, false, false] rfl rfl (by kernel_rfl) (fun _ _ _ h => h) (Or.inr ⟨by rfl, rfl⟩) rfl ?_
              try simp only [Act.put, List.setIfInBounds_toArray, List.set_cons_zero, List.set_cons_succ]
              refine pure_ (i := 15) (N := some 84) (v := .bool false) #[true, true, true, true, true, true, true, true, true, true, true, true, true, true, true, true, false, false, false, false, false, false, false, false, false, false, false, false, false, false, false, false, false, false, false] rfl rfl (by kernel_rfl) (fun _ _ _ h => h) (Or.inl ⟨wanted_none rfl, fun w => by go_simp⟩) rfl ?_
              try simp only [Act.put, List.setIfInBounds_toArray, List.set_cons_zero, List.set_cons_succ]
              refine pure_ (i := 16) (N := some 85) (v := .bool false) #[true, true, true, true, true, true, true, true, true, true, true, true, true, true, true, true, true, false, false, false, false, false, false, false, false, false, false, false, false, false, false, false, false, false, false] rfl rfl (by kernel_rfl) (fun _ _ _ h => h) (Or.inl ⟨wanted_none rfl, fun w => by rfl⟩) rfl ?_
              try simp only [Act.put, List.setIfInBounds_toArray, List.set_cons_zero, List.set_cons_succ]
              refine pure_ (i := 17) (N := some 86) (v := .slice (some ⟨b, o, Option.none⟩) got.length cN) #[true, true, true, true, true, true, true, true, true, true, true, true, true, true, true, true, true, true, false, false, false, false, false, false, false, false, false, false, false, false, false, false, false, false, false] rfl rfl (by kernel_rfl) (fun _ _ _ h => h) (Or.inl ⟨by rfl, fun w => by rfl⟩) rfl ?_
              try simp only [Act.put, List.setIfInBounds_toArray, List.set_cons_zero, List.set_cons_succ]
              refine pure_ (i := 18) (N := some 87) (v := .int .i64 j) #[true, true, true, true, true, true, true, true, true, true, true, true, true, true, true, true, true, true, true, false, false, false, false, false, false, false, false, false, false, false, false, false, false, false, false] rfl rfl (by kernel_rfl) (fun _ _ _ h => h) (Or.inl ⟨by rfl, fun w => by rfl⟩) rfl ?_
              try simp only [Act.put, List.setIfInBounds_toArray, List.set_cons_zero, List.set_cons_succ]
              refine pure_ (i := 19) (N := some 88) (v := .pointer (some ⟨b, o + j * 3, Option.none⟩)) #[true, true, true, true, true, true, true, true, true, true, true, true, true, true, true, true, true, true, true, true, false, false, false, false, false, false, false, false, false, false, false, false, false, false, false] rfl rfl (by kernel_rfl) (fun _ _ _ h => h) (Or.inl ⟨by rfl, fun w => by go_simp⟩) rfl ?_
              try simp only [Act.put, List.setIfInBounds_toArray, List.set_cons_zero, List.set_cons_succ]
              refine pure_ (i := 20) (N := some 89) (v := .pointer (some ⟨b, o + j * 3, Option.none⟩)) #[true, true, true, true, true, true, true, true, true, true, true, true, true, true, true, true, true, true, true, true, true, false, false, false, false, false, false, false, false, false, false, false, false, false, false] rfl rfl (by kernel_rfl) (fun _ _ _ h => h) (Or.inl ⟨by rfl, fun w => by go_simp⟩) rfl ?_
              try simp only [Act.put, List.setIfInBounds_toArray, List.set_cons_zero, List.set_cons_succ]
              refine take_ (i := 21) (N := some 90) (v := .int .i64 3) #[true, true, true, true, true, true, true, true, true, true, true, true, true, true, true, true, true, true, true, true, true, true, false, false, false, false, false, false, false, false, false, false, false, false, false] rfl rfl (by kernel_rfl) (fun _ _ _ h => h) (Or.inl ⟨by rfl, by intro w' hSw; go_split_ands; go_simp⟩) hS0 rfl ?_
              try simp only [Act.put, List.setIfInBounds_toArray, List.set_cons_zero, List.set_cons_succ]
              refine pure_ (i := 22) (N := some 91) (v := .bool true) #[true, true, true, true, true, true, true, true, true, true, true, true, true, true, true, true, true, true, true, true, true, true, true, false, false, false, false, false, false, false, false, false, false, false, false] rfl rfl (by kernel_rfl) (fun _ _ _ h => h) (Or.inl ⟨by rfl, fun w => by go_simp⟩) rfl ?_
              try simp only [Act.put, List.setIfInBounds_toArray, List.set_cons_zero, List.set_cons_succ]
              refine pure_ (i := 23) (N := some 92) (v := .bool true) #[true, true, true, true, true, true, true, true, true, true, true, true, true, true, true, true, true, true, true, true, true, true, true, true, false, false, false, false, false, false, false, false, false, false, false] rfl rfl (by kernel_rfl) (fun _ _ _ h => h) (Or.inl ⟨by rfl, fun w => by rfl⟩) rfl ?_
              try simp only [Act.put, List.setIfInBounds_toArray, List.set_cons_zero, List.set_cons_succ]
              refine pure_ (i := 24) (N := some 93) (v := .pointer (some ⟨xb, 2, Option.none⟩)) #[true, true, true, true, true, true, true, true, true, true, true, true, true, true, true, true, true, true, true, true, true, true, true, true, true, false, false, false, false, false, false, false, false, false, false] rfl rfl (by kernel_rfl) (fun _ _ _ h => h) (Or.inl ⟨by rfl, fun w => by go_simp⟩) rfl ?_
              try simp only [Act.put, List.setIfInBounds_toArray, List.set_cons_zero, List.set_cons_succ]
              refine take_ (i := 25) (N := some 94) (v := .slice A3 bs.length c3) #[true, true, true, true, true, true, true, true, true, true, true, true, true, true, true, true, true, true, true, true, true, true, true, true, true, true, false, false, false, false, false, false, false, false, false] rfl rfl (by kernel_rfl) (fun _ _ _ h => h) (Or.inl ⟨by rfl, by intro w' hSw; go_split_ands; go_simp⟩) hS0 rfl ?_
              try simp only [Act.put, List.setIfInBounds_toArray, List.set_cons_zero, List.set_cons_succ]
              refine pure_ (i := 26) (N := some 95) (v := .slice (some ⟨b, o, Option.none⟩) got.length cN) #[true, true, true, true, true, true, true, true, true, true, true, true, true, true, true, true, true, true, true, true, true, true, true, true, true, true, true, false, false, false, false, false, false, false, false] rfl rfl (by kernel_rfl) (fun _ _ _ h => h) (Or.inl ⟨by rfl, fun w => by rfl⟩) rfl ?_
              try simp only [Act.put, List.setIfInBounds_toArray, List.set_cons_zero, List.set_cons_succ]
              refine pure_ (i := 27) (N := some 96) (v := .int .i64 j) #[true, true, true, true, true, true, true, true, true, true, true, true, true, true, true, true, true, true, true, true, true, true, true, true, true, true, true, true, false, false, false, false, false, false, false] rfl rfl (by kernel_rfl) (fun _ _ _ h => h) (Or.inl ⟨by rfl, fun w => by rfl⟩) rfl ?_
              try simp only [Act.put, List.setIfInBounds_toArray, List.set_cons_zero, List.set_cons_succ]
              refine pure_ (i := 28) (N := some 97) (v := .pointer (some ⟨b, o + j * 3, Option.none⟩)) #[true, true, true, true, true, true, true, true, true, true, true, true, true, true, true, true, true, true, true, true, true, true, true, true, true, true, true, true, true, false, false, false, false, false, false] rfl rfl (by kernel_rfl) (fun _ _ _ h => h) (Or.inl ⟨by rfl, fun w => by go_simp⟩) rfl ?_
              try simp only [Act.put, List.setIfInBounds_toArray, List.set_cons_zero, List.set_cons_succ]
              refine pure_ (i := 29) (N := some 98) (v := .pointer (some ⟨b, o + j * 3 + 2, Option.none⟩)) #[true, true, true, true, true, true, true, true, true, true, true, true, true, true, true, true, true, true, true, true, true, true, true, true, true, true, true, true, true, true, false, false, false, false, false] rfl rfl (by kernel_rfl) (fun _ _ _ h => h) (Or.inl ⟨by rfl, fun w => by go_simp⟩) rfl ?_
              try simp only [Act.put, List.setIfInBounds_toArray, List.set_cons_zero, List.set_cons_succ]
              refine take_ (i := 30) (N := some 99) (v := .slice Ay ly cy) #[true, true, true, true, true, true, true, true, true, true, true, true, true, true, true, true, true, true, true, true, true, true, true, true, true, true, true, true, true, true, true, false, false, false, false] rfl rfl (by kernel_rfl) (fun _ _ _ h => h) (Or.inl ⟨by rfl, by intro w' hSw; go_split_ands; go_simp⟩) hS0 rfl ?_
              try simp only [Act.put, List.setIfInBounds_toArray, List.set_cons_zero, List.set_cons_succ]
              refine one_ (i := 31) (oi := ({ dst := some 100, op := Op.call { callee := Callee.value (Operand.func 21), args := #[Operand.tmp 94, Operand.tmp 99], argTypes := #[23, 23] }, type := 4, pos := "outright.go:62", after := #[{ on := 25, ground := Ground.data }, { on := 30, ground := Ground.data }, { on := 23, ground := Ground.chain }, { on := 23, ground := Ground.guard }], guard := some (23, true) } : Oper)) (N := some 100) #[true, true, true, true, true, true, true, true, true, true, true, true, true, true, true, true, true, true, true, true, true, true, true, true, true, true, true, true, true, true, true, true, false, false, false] rfl rfl (by kernel_rfl) (by simp) ?_
              intro KK hKK
              refine goes_ Try.func21 (by kernel_rfl) rfl #[.slice A3 bs.length c3, .slice Ay ly cy] (by rfl) rfl rfl (by simp [Act.eval]) ?_
              refine (same_any A3 bs.length c3 bs Ay ly cy bs _ (n3.grew (Keeps.refl None _).drew) rfl (HBY2.out _ (Keeps.refl None _).drew) HBL.out (by have := HBL.out; omega)).mono ?_
              rintro e w5 ⟨rfl, hd5⟩
              rw [sameB_same]
              have k45 : Keeps None w4 w5 := (Keeps.refl None w4).drew.trans (hd5.keeps None)
              refine ⟨_, rfl, hKK.out _ _ (HELD.out _ k45) (fun hS1 => ?_)⟩
              try simp only [Act.put, List.setIfInBounds_toArray, List.set_cons_zero, List.set_cons_succ]
              refine pure_ (i := 32) (N := some 101) (v := .bool false) #[true, true, true, true, true, true, true, true, true, true, true, true, true, true, true, true, true, true, true, true, true, true, true, true, true, true, true, true, true, true, true, true, true, false, false] rfl rfl (by kernel_rfl) (fun _ _ _ h => h) (Or.inl ⟨by rfl, fun w => by go_simp⟩) rfl ?_
              try simp only [Act.put, List.setIfInBounds_toArray, List.set_cons_zero, List.set_cons_succ]
              refine pure_ (i := 33) (N := some 102) (v := .bool false) #[true, true, true, true, true, true, true, true, true, true, true, true, true, true, true, true, true, true, true, true, true, true, true, true, true, true, true, true, true, true, true, true, true, true, false] rfl rfl (by kernel_rfl) (fun _ _ _ h => h) (Or.inl ⟨by rfl, fun w => by go_simp⟩) rfl ?_
              try simp only [Act.put, List.setIfInBounds_toArray, List.set_cons_zero, List.set_cons_succ]
              refine pure_ (i := 34) (N := some 103) (v := .bool false) #[true, true, true, true, true, true, true, true, true, true, true, true, true, true, true, true, true, true, true, true, true, true, true, true, true, true, true, true, true, true, true, true, true, true, true] rfl rfl (by kernel_rfl) (fun _ _ _ h => h) (Or.inl ⟨wanted_none rfl, fun w => by go_simp⟩) rfl ?_
              try simp only [Act.put, List.setIfInBounds_toArray, List.set_cons_zero, List.set_cons_succ]
              refine done_ (by kernel_rfl) ?_
              go_wp2_with fail
              go_roundw
              case rel => exact ⟨j + 1, by omega, by go_num, by rw [HTJ.out, outF_snoc, List.length_append, HOUT1.out, ← HPP.out]; exact Rd.grew hs4 k45, hN4.keeps k45 (fun _ _ f => f), hK4.trans k45⟩
              case measure => simp [intOf]; omega
            · subst hkd
              have hst : bytStep zs ⟨P, 0, 0⟩ = (bs, ⟨P + ((varF bs.length).length + bs.length), 0, 0⟩) := byt_back (rest := outF (got.drop (j + 1))) (by rw [hdrop]; rfl) (by have := hgood.ok.long; have := hgood.ok.len; simp only at *; omega) hple
              have hout1 : (It.out ⟨4, nn, Ay, ly, cy, bs⟩).length = ((varF bs.length).length + bs.length) := by first | rfl | (unfold It.out itemF; simp)
              have hQ := cread_txt g' wa.heap.size v' zs ⟨P, 0, 0⟩ w2 hs2 hzr HBY.out
              rw [hst] at hQ
              simp only at hQ
              have HOUT1 := Lib.hid hout1
              clear hout1
              go_wp2_with fail
              refine hQ.mono ?_
              rintro e w3 ⟨A3, c3, rfl, n3, -, -, hs3, hk3⟩
              have hN3 := hN2.keeps hk3 (fun b' e' f => by have : b' = g' := f; have := (hNl b' e').2; omega)
              have hK3 : Keeps None w w3 := hK2.andThen hk3 (fun i hi e => by have : i = g' := e; omega)
              have hk34 : Keeps None w3 (w3.alloc (.cells #[.int .i64 4, .int .i64 0, .slice A3 bs.length c3] 32)) := (Keeps.refl _ _).alloc _
              have hxb := Blk.new w3 32 [.int .i64 4, .int .i64 0, .slice A3 bs.length c3]
              go_wp2_with fail
              obtain ⟨w4, hw4⟩ : ∃ w4, w4 = w3.alloc (.cells #[.int .i64 4, .int .i64 0, .slice A3 bs.length c3] 32) := ⟨_, rfl⟩
              obtain ⟨xb, hxbe⟩ : ∃ xb, xb = w3.heap.size := ⟨_, rfl⟩
              have hxb : Blk w4 xb 32 [.int .i64 4, .int .i64 0, .slice A3 bs.length c3] := by rw [hw4, hxbe]; exact hxb
              have hk34 : Keeps None w3 w4 := by rw [hw4]; exact hk34
              have hN4 := hN3.keeps hk34 (fun _ _ f => f)
              have hs4 : St.at ⟨P + ((varF bs.length).length + bs.length), 0, 0⟩ w4 g' wa.heap.size v' zs := Rd.grew hs3 hk34
              have hK4 := hK3.trans hk34
              have n3 := n3.grew hk34
              obtain ⟨A', c', ev', hc', hI4⟩ := hN4.open_
              cases ev'
              obtain ⟨b', o', eb, q0, q1, q2⟩ := hI4 j _ HXJ.out
              simp only at q0 q1 q2
              obtain ⟨rfl, rfl⟩ : b = b' ∧ o = o' := by cases eb; exact ⟨rfl, rfl⟩
              have r1 := hxb.cell 1 _ rfl
              have r2 := hxb.cell 2 _ rfl
              have held : ∀ w', Keeps None w4 w' → (w'.cell? ⟨b, o + j * 3, Option.none⟩ = some (.int .i64 4) ∧ w'.cell? ⟨b, o + j * 3 + 1, Option.none⟩ = some (.int .i64 nn) ∧ w'.cell? ⟨b, o + j * 3 + 2, Option.none⟩ = some (.slice Ay ly cy) ∧ w'.cell? ⟨xb, 1, Option.none⟩ = some (.int .i64 0) ∧ w'.cell? ⟨xb, 2, Option.none⟩ = some (.slice A3 bs.length c3)) := fun w' h => ⟨h.cell q0 id, h.cell q1 id, h.cell q2 id, h.cell r1 id, h.cell r2 id⟩
              have HELD := Lib.hid held
              have HBL : Hid (bs.length = ly) := Lib.hid hgood.ok.len
              have HBY2 : Hid (∀ w', Keeps None w4 w' → Nums .u8 w' Ay bs) := Lib.hid (fun w' h => hgood.ok.nums.grew (hK4.trans h))
              have hly : ly ≤ 65536 := hgood.ok.long
              clear held hst hQ
              rw [← hw4, ← hxbe]
              clear hw4 hxbe
              refine start_ (ds := []) (S := (fun w' => w'.cell? ⟨b, o + j * 3, Option.none⟩ = some (.int .i64 4) ∧ w'.cell? ⟨b, o + j * 3 + 1, Option.none⟩ = some (.int .i64 nn) ∧ w'.cell? ⟨b, o + j * 3 + 2, Option.none⟩ = some (.slice Ay ly cy) ∧ w'.cell? ⟨xb, 1, Option.none⟩ = some (.int .i64 0) ∧ w'.cell? ⟨xb, 2, Option.none⟩ = some (.slice A3 bs.length c3))) #[false, false, false, false, false, false, false, false, false, false, false, false, false, false, false, false, false, false, false, false, false, false, false, false, false, false, false, false, false, false, false, false, false, false, false] (by kernel_rfl) rfl rfl (HELD.out _ (Keeps.refl _ _).drew) (fun hS0 => ?_)
              refine pure_ (i := 0) (N := some 69) (v := .slice (some ⟨b, o, Option.none⟩) got.length cN) #[true, false, false, false, false, false, false, false, false, false, false, false, false, false, false, false, false, false, false, false, false, false, false, false, false, false, false, false, false, false, false, false, false, false, false] rfl rfl (by kernel_rfl) (fun _ _ _ h => h) (Or.inl ⟨wanted_none rfl, fun w => by rfl⟩) rfl ?_
              try simp only [Act.put, List.setIfInBounds_toArray, List.set_cons_zero, List.set_cons_succ]
              refine pure_ (i := 1) (N := some 70) (v := .int .i64 j) #[true, true, false, false, false, false, false, false, false, false, false, false, false, false, false, false, false, false, false, false, false, false, false, false, false, false, false, false, false, false, false, false, false, false, false] rfl rfl (by kernel_rfl) (fun _ _ _ h => h) (Or.inl ⟨wanted_none rfl, fun w => by rfl⟩) rfl ?_
              try simp only [Act.put, List.setIfInBounds_toArray, List.set_cons_zero, List.set_cons_succ]
              refine pure_ (i := 2) (N := some 71) (v := .pointer (some ⟨b, o + j * 3, Option.none⟩)) #[true, true, true, false, false, false, false, false, false, false, false, false, false, false, false, false, false, false, false, false, false, false, false, false, false, false, false, false, false, false, false, false, false, false, false] rfl rfl (by kernel_rfl) (fun _ _ _ h => h) (Or.inl ⟨wanted_none rfl, fun w => by go_simp⟩) rfl ?_
              try simp only [Act.put, List.setIfInBounds_toArray, List.set_cons_zero, List.set_cons_succ]
              refine pure_ (i := 3) (N := some 72) (v := .pointer (some ⟨b, o + j * 3, Option.none⟩)) #[true, true, true, true, false, false, false, false, false, false, false, false, false, false, false, false, false, false, false, false, false, false, false, false, false, false, false, false, false, false, false, false, false, false, false] rfl rfl (by kernel_rfl) (fun _ _ _ h => h) (Or.inl ⟨wanted_none rfl, fun w => by go_simp⟩) rfl ?_
              try simp only [Act.put, List.setIfInBounds_toArray, List.set_cons_zero, List.set_cons_succ]
              refine take_ (i := 4) (N := some 73) (v := .int .i64 4) #[true, true, true, true, true, false, false, false, false, false, false, false, false, false, false, false, false, false, false, false, false, false, false, false, false, false, false, false, false, false, false, false, false, false, false] rfl rfl (by kernel_rfl) (fun _ _ _ h => h) (Or.inl ⟨wanted_none rfl, by intro w' hSw; go_split_ands; go_simp⟩) hS0 rfl ?_
              try simp only [Act.put, List.setIfInBounds_toArray, List.set_cons_zero, List.set_cons_succ]
              refine pure_ (i := 5) (N := some 74) (v := .bool false) #[true, true, true, true, true, true, false, false, false, false, false, false, false, false, false, false, false, false, false, false, false, false, false, false, false, false, false, false, false, false, false, false, false, false, false] rfl rfl (by kernel_rfl) (fun _ _ _ h => h) (Or.inl ⟨wanted_none rfl, fun w => by go_simp⟩) rfl ?_
              try simp only [Act.put, List.setIfInBounds_toArray, List.set_cons_zero, List.set_cons_succ]
              refine pure_ (i := 6) (N := some 75) (v := .bool false) #[true, true, true, true, true, true, true, false, false, false, false, false, false, false, false, false, false, false, false, false, false, false, false, false, false, false, false, false, false, false, false, false, false, false, false] rfl rfl (by kernel_rfl) (fun _ _ _ h => h) (Or.inl ⟨wanted_none rfl, fun w => by rfl⟩) rfl ?_
              try simp only [Act.put, List.setIfInBounds_toArray, List.set_cons_zero, List.set_cons_succ]
              refine pure_ (i := 7) (N := some 76) (v := undef) #[true, true, true, true, true, true, true, true, false, false, false, false, false, false, false, false, false, false, false, false, false, false, false, false, false, false, false, false, false, false, false, false, false, false, false] rfl rfl (by kernel_rfl) (fun _ _ _ h => h) (Or.inr ⟨by rfl, rfl⟩) rfl ?_
              try simp only [Act.put, List.setIfInBounds_toArray, List.set_cons_zero, List.set_cons_succ]
              refine pure_ (i := 8) (N := some 77) (v := undef) #[true, true, true, true, true, true, true, true, true, false, false, false, false, false, false, false, false, false, false, false, false, false, false, false, false, false, false, false, false, false, false, false, false, false, false] rfl rfl (by kernel_rfl) (fun _ _ _ h => h) (Or.inr ⟨by rfl, rfl⟩) rfl ?_
              try simp only [Act.put, List.setIfInBounds_toArray, List.set_cons_zero, List.set_cons_succ]
              refine pure_ (i := 9) (N := some 78) (v := undef) #[true, true, true, true, true, true, true, true, true, true, false, false, false, false, false, false, false, false, false, false, false, false, false, false, false, false, false, false, false, false, false, false, false, false, false] rfl rfl (by kernel_rfl) (fun _ _ _ h => h) (Or.inr ⟨by rfl, rfl⟩) rfl ?_
              try simp only [Act.put, List.setIfInBounds_toArray, List.set_cons_zero, List.set_cons_succ]
              refine pure_ (i := 10) (N := some 79) (v := undef) #[true, true, true, true, true, true, true, true, true, true, true, false, false, false, false, false, false, false, false, false, false, false, false, false, false, false, false, false, false, false, false, false, false, false, false] rfl rfl (by kernel_rfl) (fun _ _ _ h => h) (Or.inr ⟨by rfl, rfl⟩) rfl ?_
              try simp only [Act.put, List.setIfInBounds_toArray, List.set_cons_zero, List.set_cons_succ]
              refine pure_ (i := 11) (N := some 80) (v := undef) #[true, true, true, true, true, true, true, true, true, true, true, true, false, false, false, false, false, false, false, false, false, false, false, false, false, false, false, false, false, false, false, false, false, false, false] rfl rfl (by kernel_rfl) (fun _ _ _ h => h) (Or.inr ⟨by rfl, rfl⟩) rfl ?_
              try simp only [Act.put, List.setIfInBounds_toArray, List.set_cons_zero, List.set_cons_succ]
              refine pure_ (i := 12) (N := some 81) (v := undef) #[true, true, true, true, true, true, true, true, true, true, true, true, true, false, false, false, false, false, false, false, false, false, false, false, false, false, false, false, false, false, false, false, false, false, false] rfl rfl (by kernel_rfl) (fun _ _ _ h => h) (Or.inr ⟨by rfl, rfl⟩) rfl ?_
              try simp only [Act.put, List.setIfInBounds_toArray, List.set_cons_zero, List.set_cons_succ]
              refine pure_ (i := 13) (N := some 82) (v := undef) #[true, true, true, true, true, true, true, true, true, true, true, true, true, true, false, false, false, false, false, false, false, false, false, false, false, false, false, false, false, false, false, false, false, false, false] rfl rfl (by kernel_rfl) (fun _ _ _ h => h) (Or.inr ⟨by rfl, rfl⟩) rfl ?_
              try simp only [Act.put, List.setIfInBounds_toArray, List.set_cons_zero, List.set_cons_succ]
              refine pure_ (i := 14) (N := some 83) (v := undef) #[true, true, true, true, true, true, true, true, true, true, true, true, true, true, true, false, false, false, false, false, false, false, false, false, false, false, false, false, false, false, false, false, false, false, false] rfl rfl (by kernel_rfl) (fun _ _ _ h => h) (Or.inr ⟨by rfl, rfl⟩) rfl ?_
              try simp only [Act.put, List.setIfInBounds_toArray, List.set_cons_zero, List.set_cons_succ]
              refine pure_ (i := 15) (N := some 84) (v := .bool false) #[true, true, true, true, true, true, true, true, true, true, true, true, true, true, true, true, false, false, false, false, false, false, false, false, false, false, false, false, false, false, false, false, false, false, false] rfl rfl (by kernel_rfl) (fun _ _ _ h => h) (Or.inl ⟨wanted_none rfl, fun w => by go_simp⟩) rfl ?_
              try simp only [Act.put, List.setIfInBounds_toArray, List.set_cons_zero, List.set_cons_succ]
              refine pure_ (i := 16) (N := some 85) (v := .bool false) #[true, true, true, true, true, true, true, true, true, true, true, true, true, true, true, true, true, false, false, false, false, false, false, false, false, false, false, false, false, false, false, false, false, false, false] rfl rfl (by kernel_rfl) (fun _ _ _ h => h) (Or.inl ⟨wanted_none rfl, fun w => by rfl⟩) rfl ?_
              try simp only [Act.put, List.setIfInBounds_toArray, List.set_cons_zero, List.set_cons_succ]
              refine pure_ (i := 17) (N := some 86) (v := .slice (some ⟨b, o, Option.none⟩) got.length cN) #[true, true, true, true, true, true, true, true, true, true, true, true, true, true, true, true, true, true, false, false, false, false, false, false, false, false, false, false, false, false, false, false, false, false, false] rfl rfl (by kernel_rfl) (fun _ _ _ h => h) (Or.inl ⟨by rfl, fun w => by rfl⟩) rfl ?_
              try simp only [Act.put, List.setIfInBounds_toArray, List.set_cons_zero, List.set_cons_succ]
              refine pure_ (i := 18) (N := some 87) (v := .int .i64 j) #[true, true, true, true, true, true, true, true, true, true, true, true, true, true, true, true, true, true, true, false, false, false, false, false, false, false, false, false, false, false, false, false, false, false, false] rfl rfl (by kernel_rfl) (fun _ _ _ h => h) (Or.inl ⟨by rfl, fun w => by rfl⟩) rfl ?_
              try simp only [Act.put, List.setIfInBounds_toArray, List.set_cons_zero, List.set_cons_succ]
              refine pure_ (i := 19) (N := some 88) (v := .pointer (some ⟨b, o + j * 3, Option.none⟩)) #[true, true, true, true, true, true, true, true, true, true, true, true, true, true, true, true, true, true, true, true, false, false, false, false, false, false, false, false, false, false, false, false, false, false, false] rfl rfl (by kernel_rfl) (fun _ _ _ h => h) (Or.inl ⟨by rfl, fun w => by go_simp⟩) rfl ?_
              try simp only [Act.put, List.setIfInBounds_toArray, List.set_cons_zero, List.set_cons_succ]
              refine pure_ (i := 20) (N := some 89) (v := .pointer (some ⟨b, o + j * 3, Option.none⟩)) #[true, true, true, true, true, true, true, true, true, true, true, true, true, true, true, true, true, true, true, true, true, false, false, false, false, false, false, false, false, false, false, false, false, false, false] rfl rfl (by kernel_rfl) (fun _ _ _ h => h) (Or.inl ⟨by rfl, fun w => by go_simp⟩) rfl ?_
              try simp only [Act.put, List.setIfInBounds_toArray, List.set_cons_zero, List.set_cons_succ]
              refine take_ (i := 21) (N := some 90) (v := .int .i64 4) #[true, true, true, true, true, true, true, true, true, true, true, true, true, true, true, true, true, true, true, true, true, true, false, false, false, false, false, false, false, false, false, false, false, false, false] rfl rfl (by kernel_rfl) (fun _ _ _ h => h) (Or.inl ⟨by rfl, by intro w' hSw; go_split_ands; go_simp⟩) hS0 rfl ?_
              try simp only [Act.put, List.setIfInBounds_toArray, List.set_cons_zero, List.set_cons_succ]
              refine pure_ (i := 22) (N := some 91) (v := .bool true) #[true, true, true, true, true, true, true, true, true, true, true, true, true, true, true, true, true, true, true, true, true, true, true, false, false, false, false, false, false, false, false, false, false, false, false] rfl rfl (by kernel_rfl) (fun _ _ _ h => h) (Or.inl ⟨by rfl, fun w => by go_simp⟩) rfl ?_
              try simp only [Act.put, List.setIfInBounds_toArray, List.set_cons_zero, List.set_cons_succ]
              refine pure_ (i := 23) (N := some 92) (v := .bool true) #[true, true, true, true, true, true, true, true, true, true, true, true, true, true, true, true, true, true, true, true, true, true, true, true, false, false, false, false, false, false, false, false, false, false, false] rfl rfl (by kernel_rfl) (fun _ _ _ h => h) (Or.inl ⟨by rfl, fun w => by rfl⟩) rfl ?_
              try simp only [Act.put, List.setIfInBounds_toArray, List.set_cons_zero, List.set_cons_succ]
              refine pure_ (i := 24) (N := some 93) (v := .pointer (some ⟨xb, 2, Option.none⟩)) #[true, true, true, true, true, true, true, true, true, true, true, true, true, true, true, true, true, true, true, true, true, true, true, true, true, false, false, false, false, false, false, false, false, false, false] rfl rfl (by kernel_rfl) (fun _ _ _ h => h) (Or.inl ⟨by rfl, fun w => by go_simp⟩) rfl ?_
              try simp only [Act.put, List.setIfInBounds_toArray, List.set_cons_zero, List.set_cons_succ]
              refine take_ (i := 25) (N := some 94) (v := .slice A3 bs.length c3) #[true, true, true, true, true, true, true, true, true, true, true, true, true, true, true, true, true, true, true, true, true, true, true, true, true, true, false, false, false, false, false, false, false, false, false] rfl rfl (by kernel_rfl) (fun _ _ _ h => h) (Or.inl ⟨by rfl, by intro w' hSw; go_split_ands; go_simp⟩) hS0 rfl ?_
              try simp only [Act.put, List.setIfInBounds_toArray, List.set_cons_zero, List.set_cons_succ]
              refine pure_ (i := 26) (N := some 95) (v := .slice (some ⟨b, o, Option.none⟩) got.length cN) #[true, true, true, true, true, true, true, true, true, true, true, true, true, true, true, true, true, true, true, true, true, true, true, true, true, true, true, false, false, false, false, false, false, false, false] rfl rfl (by kernel_rfl) (fun _ _ _ h => h) (Or.inl ⟨by rfl, fun w => by rfl⟩) rfl ?_
              try simp only [Act.put, List.setIfInBounds_toArray, List.set_cons_zero, List.set_cons_succ]
              refine pure_ (i := 27) (N := some 96) (v := .int .i64 j) #[true, true, true, true, true, true, true, true, true, true, true, true, true, true, true, true, true, true, true, true, true, true, true, true, true, true, true, true, false, false, false, false, false, false, false] rfl rfl (by kernel_rfl) (fun _ _ _ h => h) (Or.inl ⟨by rfl, fun w => by rfl⟩) rfl ?_
              try simp only [Act.put, List.setIfInBounds_toArray, List.set_cons_zero, List.set_cons_succ]
              refine pure_ (i := 28) (N := some 97) (v := .pointer (some ⟨b, o + j * 3, Option.none⟩)) #[true, true, true, true, true, true, true, true, true, true, true, true, true, true, true, true, true, true, true, true, true, true, true, true, true, true, true, true, true, false, false, false, false, false, false] rfl rfl (by kernel_rfl) (fun _ _ _ h => h) (Or.inl ⟨by rfl, fun w => by go_simp⟩) rfl ?_
              try simp only [Act.put, List.setIfInBounds_toArray, List.set_cons_zero, List.set_cons_succ]
              refine pure_ (i := 29) (N := some 98) (v := .pointer (some ⟨b, o + j * 3 + 2, Option.none⟩)) #[true, true, true, true, true, true, true, true, true, true, true, true, true, true, true, true, true, true, true, true, true, true, true, true, true, true, true, true, true, true, false, false, false, false, false] rfl rfl (by kernel_rfl) (fun _ _ _ h => h) (Or.inl ⟨by rfl, fun w => by go_simp⟩) rfl ?_
              try simp only [Act.put, List.setIfInBounds_toArray, List.set_cons_zero, List.set_cons_succ]
              refine take_ (i := 30) (N := some 99) (v := .slice Ay ly cy) #[true, true, true, true, true, true, true, true, true, true, true, true, true, true, true, true, true, true, true, true, true, true, true, true, true, true, true, true, true, true, true, false, false, false, false] rfl rfl (by kernel_rfl) (fun _ _ _ h => h) (Or.inl ⟨by rfl, by intro w' hSw; go_split_ands; go_simp⟩) hS0 rfl ?_
              try simp only [Act.put, List.setIfInBounds_toArray, List.set_cons_zero, List.set_cons_succ]
              refine one_ (i := 31) (oi := ({ dst := some 100, op := Op.call { callee := Callee.value (Operand.func 21), args := #[Operand.tmp 94, Operand.tmp 99], argTypes := #[23, 23] }, type := 4, pos := "outright.go:62", after := #[{ on := 25, ground := Ground.data }, { on := 30, ground := Ground.data }, { on := 23, ground := Ground.chain }, { on := 23, ground := Ground.guard }], guard := some (23, true) } : Oper)) (N := some 100) #[true, true, true, true, true, true, true, true, true, true, true, true, true, true, true, true, true, true, true, true, true, true, true, true, true, true, true, true, true, true, true, true, false, false, false] rfl rfl (by kernel_rfl) (by simp) ?_
              intro KK hKK
              refine goes_ Try.func21 (by kernel_rfl) rfl #[.slice A3 bs.length c3, .slice Ay ly cy] (by rfl) rfl rfl (by simp [Act.eval]) ?_
              refine (same_any A3 bs.length c3 bs Ay ly cy bs _ (n3.grew (Keeps.refl None _).drew) rfl (HBY2.out _ (Keeps.refl None _).drew) HBL.out (by have := HBL.out; omega)).mono ?_
              rintro e w5 ⟨rfl, hd5⟩
              rw [sameB_same]
              have k45 : Keeps None w4 w5 := (Keeps.refl None w4).drew.trans (hd5.keeps None)
              refine ⟨_, rfl, hKK.out _ _ (HELD.out _ k45) (fun hS1 => ?_)⟩
              try simp only [Act.put, List.setIfInBounds_toArray, List.set_cons_zero, List.set_cons_succ]
              refine pure_ (i := 32) (N := some 101) (v := .bool false) #[true, true, true, true, true, true, true, true, true, true, true, true, true, true, true, true, true, true, true, true, true, true, true, true, true, true, true, true, true, true, true, true, true, false, false] rfl rfl (by kernel_rfl) (fun _ _ _ h => h) (Or.inl ⟨by rfl, fun w => by go_simp⟩) rfl ?_
              try simp only [Act.put, List.setIfInBounds_toArray, List.set_cons_zero, List.set_cons_succ]
              refine pure_ (i := 33) (N := some 102) (v := .bool false) #[true, true, true, true, true, true, true, true, true, true, true, true, true, true, true, true, true, true, true, true, true, true, true, true, true, true, true, true, true, true, true, true, true, true, false] rfl rfl (by kernel_rfl) (fun _ _ _ h => h) (Or.inl ⟨by rfl, fun w => by go_simp⟩) rfl ?_
              try simp only [Act.put, List.setIfInBounds_toArray, List.set_cons_zero, List.set_cons_succ]
              refine pure_ (i := 34) (N := some 103) (v := .bool false) #[true, true, true, true, true, true, true, true, true, true, true, true, true, true, true, true, true, true, true, true, true, true, true, true, true, true, true, true, true, true, true, true, true, true, true] rfl rfl (by kernel_rfl) (fun _ _ _ h => h) (Or.inl ⟨wanted_none rfl, fun w => by go_simp⟩) rfl ?_
              try simp only [Act.put, List.setIfInBounds_toArray, List.set_cons_zero, List.set_cons_succ]
              refine done_ (by kernel_rfl) ?_
              go_wp2_with fail
              go_roundw
              case rel => exact ⟨j + 1, by omega, by go_num, by rw [HTJ.out, outF_snoc, List.length_append, HOUT1.out, ← HPP.out]; exact Rd.grew hs4 k45, hN4.keeps k45 (fun _ _ f => f), hK4.trans k45⟩
              case measure => simp [intOf]; omega
          · obtain rfl : j = got.length := by omega
            rw [List.take_of_length_le (Nat.le_refl _), ← HB.out] at hsj
            go_wp2_with fail
            refine (rmore_any g' wa.heap.size v' zs ⟨zs.length, 0, 0⟩ wr hsj hzr).mono ?_
            rintro e w2 ⟨rfl, hd2⟩
            rw [show (decide ((⟨zs.length, 0, 0⟩ : St).err = 0) && decide ((⟨zs.length, 0, 0⟩ : St).p < zs.length)) = false by simp]
            have hs2 : St.at ⟨zs.length, 0, 0⟩ w2 g' wa.heap.size v' zs := Rd.grew hsj (hd2.keeps None)
            have hK2 := hKj.trans (hd2.keeps None)
            go_wp2_with fail
            refine (rend_any g' wa.heap.size v' zs ⟨zs.length, 0, 0⟩ w2 hs2 hzr).mono ?_
            rintro e w3 ⟨rfl, hs3, hk3⟩
            have hes : endStep zs ⟨zs.length, 0, 0⟩ = ⟨zs.length, 0, 0⟩ := if_neg (fun h => by have := h.2; simp at this)
            rw [hes] at hs3
            have hK3 : Keeps None w w3 := hK2.andThen hk3 (fun i hi e => by have : i = g' := e; omega)
            clear hes
            go_wp2_with fail
            refine (rerr_any g' wa.heap.size v' zs ⟨zs.length, 0, 0⟩ w3 hs3).mono ?_
            rintro e w4 ⟨rfl, hd4⟩
            have hK4 := hK3.trans (hd4.keeps None)
            go_wp2_with fail
            go_ret
            exact ⟨rfl, hK4.to_below⟩
end Go.Proofs.Ytnhhmkgcgogddaa.wireBack
