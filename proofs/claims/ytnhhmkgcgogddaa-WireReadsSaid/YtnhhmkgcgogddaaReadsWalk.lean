/- The walk of WireReads. -/
import Derived.Test.YtnhhmkgcgogddaaRCall
import Derived.Test.YtnhhmkgcgogddaaOpen
namespace Go.Proofs.Ytnhhmkgcgogddaa.wireReads
open Go.RowKit Go.Proofs.YtnhhmkgcgogddaaW.PrintLast
set_option linter.unusedVariables false

def LawEnd (w : World) (e : Ending) (w' : World) : Prop := e = .returned (.bool true) ∧ Below w.heap.size w w'

/-- A struct's cell and a plain result. -/
theorem results_ct {P : Program} {fn : Func} {p u : Tmp} {ty : TypeId} (h : fn.results = #[.cell p ty, .tmp u]) (tmps : Array Value) (w : World) (g : Nat) (t : TypeId) (cs : Array Value) (fr : Nat × Nat) (d : TypeDesc)
    (hp : tmps.getD p undef = .pointer (some ⟨g, 0, Option.none⟩)) (hg : w.heap[g]? = some (.cells cs t fr))
    (hu : P.underlying ty = some d) (hd : (match d with | .struct _ | .array _ _ => true | _ => false) = true) (hi : (P.info? ty).map (·.size) = some cs.size) :
    (results fn tmps).run P w = .ok (.tuple #[.agg cs, tmps.getD u undef]) w := by
  have hp' : tmps[p]?.getD undef = .pointer (some ⟨g, 0, Option.none⟩) := by simpa using hp
  simp [results, h, hp', asAddr, run_loadVar_row w g t ty cs fr d hg hu hd hi]

theorem Try.sizeTurn {a b : Value} : (Try.prog.info? 50).map (·.size) = some (#[a, b] : Array Value).size := by kernel_rfl

/-- What reader tells: both readers over the bytes. -/
def Begun (A : Option Addr) (n cap : Nat) (zs : List Int) (w : World) (e : Ending) (w' : World) : Prop :=
  ∃ g v base r, e = .returned (.tuple #[.agg #[.pointer (some ⟨g, 0, Option.none⟩), .pointer (some ⟨r, 0, Option.none⟩)], .bool true]) ∧ (⟨0, 0, 0⟩ : St).at w' g base v zs ∧ RR w' r A n cap ⟨0, 0, 0⟩ ∧ w.heap.size ≤ base ∧ g < r ∧ (∀ b, v.ownBlock = some b → b < r) ∧ Keeps None w w'

set_option maxRecDepth 100000 in
set_option maxHeartbeats 1600000 in
theorem reader_any (A : Option Addr) (n cap : Nat) (zs : List Int) (w : World) (hA : Nums .u8 w A zs) (hn : zs.length = n) (hr : n ≤ 140737488351232) :
    Calls Try.prog 27 #[.slice A n cap] w (Begun A n cap zs w) := by
  subst hn
  go_enter Try.func27, Try.ntmps27
  go_wp2_with fail
  have hk0 : Keeps None w (w.alloc (.cells #[.pointer Option.none, .pointer Option.none] 50)) := (Keeps.refl _ _).alloc _
  have hz := Blk.new w 50 [.pointer Option.none, .pointer Option.none]
  obtain ⟨w0, hw0⟩ : ∃ w0, w0 = w.alloc (.cells #[.pointer Option.none, .pointer Option.none] 50) := ⟨_, rfl⟩
  obtain ⟨tb, htb⟩ : ∃ tb, tb = w.heap.size := ⟨_, rfl⟩
  have hz : Blk w0 tb 50 [.pointer Option.none, .pointer Option.none] := by rw [hw0, htb]; exact hz
  rw [← hw0] at hk0 ⊢
  rw [← htb]
  have HTB := Lib.hid htb
  clear hw0 htb
  refine (lend_any A zs.length cap zs w0 (hA.grew hk0) rfl hr).mono ?_
  rintro e w1 ⟨l, rfl, hl0, hl, hk1⟩
  go_wp2_with fail
  refine (read_any (some ⟨l, 0, Option.none⟩) zs.length (zs.length + 5) zs w1 (lentCells_nums hl) rfl hr).mono ?_
  rintro e w2 ⟨g, v, rfl, hs2, hk2⟩
  have hl2 := hl.grew hk2
  have hll := hl.lt
  have hz2 := (hz.grew hk1).grew hk2
  have hK2 := (hk0.trans hk1).trans hk2
  have hzl := hz.lt
  have hz0 := hk0.size
  have hz1 := hk1.size
  go_wp2_with fail
  refine (back_any l zs.length zs A zs.length cap w2 hl2 rfl (hA.grew hK2) rfl hr).mono ?_
  rintro e w3 ⟨rfl, hl3, hk3⟩
  have hgb := Rd.hb hs2
  have hs3 : (⟨0, 0, 0⟩ : St).at w3 g w1.heap.size v zs := Rd.keeps hs2 hk3 (fun e => by have : g = l := e; omega) (fun b e f => by have : b = l := f; have := ((Rd.row hs2).lt b e).1; omega)
  have hK3 : Keeps None w w3 := hK2.andThen hk3 (fun i hi e => by have : i = l := e; omega)
  have hz3 := hz2.keeps hk3 (fun e => by have : tb = l := e; have := HTB.out; omega)
  have hvl := fun b (e : v.ownBlock = some b) => ((Rd.row hs3).lt b e).2
  have hgl := (Rd.blk hs3).lt
  have hk4 : Keeps None w3 (w3.alloc (.cells #[.slice A zs.length cap, .int .i64 0, .int .i64 0, .int .i64 0] 81)) := (Keeps.refl _ _).alloc _
  have hz4 := hz3.grew hk4
  have z0 := hz4.cell 0 _ rfl
  have z1 := hz4.cell 1 _ rfl
  have y0 := hz4.free 0
  have y1 := hz4.free 1
  go_wp2_with fail
  have kz : Keeps (One tb) (w3.alloc (.cells #[.slice A zs.length cap, .int .i64 0, .int .i64 0, .int .i64 0] 81)) (((w3.alloc (.cells #[.slice A zs.length cap, .int .i64 0, .int .i64 0, .int .i64 0] 81)).setCell ⟨tb, 0, Option.none⟩ (.pointer (some ⟨g, 0, Option.none⟩))).setCell ⟨tb, 1, Option.none⟩ (.pointer (some ⟨w3.heap.size, 0, Option.none⟩))) :=
    ((Keeps.refl (One tb) _).setCell ⟨tb, 0, Option.none⟩ _ (fun _ => rfl)).setCell ⟨tb, 1, Option.none⟩ _ (fun _ => rfl)
  have hr4 : RR (w3.alloc (.cells #[.slice A zs.length cap, .int .i64 0, .int .i64 0, .int .i64 0] 81)) w3.heap.size A zs.length cap ⟨0, 0, 0⟩ := ⟨Blk.new w3 81 [.slice A zs.length cap, .int .i64 0, .int .i64 0, .int .i64 0], Nat.zero_le _⟩
  have hsz3 := hK3.size
  have htb := HTB.out
  refine bodyPost_ret (results_ct rfl _ _ tb 50 #[.pointer (some ⟨g, 0, Option.none⟩), .pointer (some ⟨w3.heap.size, 0, Option.none⟩)] (0, 0) _ rfl ((hz4.set 0 (.pointer (some ⟨g, 0, Option.none⟩))).set 1 (.pointer (some ⟨w3.heap.size, 0, Option.none⟩))).raw Try.underlying50 rfl Try.sizeTurn) rfl ?_
  refine ⟨g, v, w1.heap.size, w3.heap.size, rfl, ?_, ?_, by omega, hgl, hvl, ?_⟩
  · exact Rd.keeps (Rd.grew hs3 hk4) kz (fun e => by have : g = tb := e; omega) (fun b e f => by have : b = tb := f; have := ((Rd.row hs3).lt b e).1; omega)
  · exact hr4.keeps kz (fun e => by have : w3.heap.size = tb := e; have := hz3.lt; omega)
  · exact (hK3.trans hk4).andThen kz (fun i hi e => by have : i = tb := e; omega)

set_option maxRecDepth 100000 in
set_option maxHeartbeats 3200000 in
theorem walk (A : Option Addr) (n cap : Nat) (zs : List Int) (B : Option Addr) (m cap' : Nat) (cs : List Int) (w : World) (hA : Nums .u8 w A zs) (hb : Bytes zs) (hn : zs.length = n) (hr : n ≤ 140737488351232) (hc : n ≤ cap) (hB : Nums .i64 w B cs) (hm : cs.length = m) (hrm : m ≤ 17592186043904) :
    Calls Try.prog 9 #[.slice A n cap, .slice B m cap'] w (LawEnd w) := by
  subst hn
  subst hm
  have HB := Lib.hid hb
  clear hb
  go_enter Try.func9, Try.ntmps9
  go_wp2_with fail
  refine (reader_any A zs.length cap zs w hA rfl hr).mono ?_
  rintro e w1 ⟨g, v, base, r, rfl, hs1, hr1, hbase, hgr, hvr, hk1⟩
  have hgb := Rd.hb hs1
  have hbr : w.heap.size ≤ r := by omega
  have hvr' : ∀ b, v.ownBlock = some b → b ≠ r := fun b e => by have := hvr b e; omega
  have HV := Lib.hid hvr'
  have hoff : 0 < zs.length → Off A (One r) := fun h0 b o e f => by subst e; have := hA.lt h0; have : b = r := f; omega
  have hoffg : 0 < zs.length → Off A (One g) := fun h0 b o e f => by subst e; have := hA.lt h0; have : b = g := f; omega
  clear hvr hvr'
  go_wp2_with fail
  have hk2 : Keeps None w1 (w1.alloc (.cells #[.pointer (some ⟨g, 0, Option.none⟩), .pointer (some ⟨r, 0, Option.none⟩)] 50)) := (Keeps.refl _ _).alloc _
  have hbx := Blk.new w1 50 [.pointer (some ⟨g, 0, Option.none⟩), .pointer (some ⟨r, 0, Option.none⟩)]
  have hgl := (Rd.blk hs1).lt
  have hrl := hr1.blk.lt
  obtain ⟨w2, hw2⟩ : ∃ w2, w2 = w1.alloc (.cells #[.pointer (some ⟨g, 0, Option.none⟩), .pointer (some ⟨r, 0, Option.none⟩)] 50) := ⟨_, rfl⟩
  obtain ⟨tb, htb⟩ : ∃ tb, tb = w1.heap.size := ⟨_, rfl⟩
  have hbx : Blk w2 tb 50 [.pointer (some ⟨g, 0, Option.none⟩), .pointer (some ⟨r, 0, Option.none⟩)] := by rw [hw2, htb]; exact hbx
  have hs2 : (⟨0, 0, 0⟩ : St).at w2 g base v zs := by rw [hw2]; exact Rd.grew hs1 hk2
  have hr2 : RR w2 r A zs.length cap ⟨0, 0, 0⟩ := by rw [hw2]; exact hr1.grew hk2
  have hK2 : Keeps None w w2 := by rw [hw2]; exact hk1.trans hk2
  rw [← hw2, ← htb]
  rw [← htb] at hgl hrl
  clear hw2 htb hk2 hs1 hr1 hk1
  go_loopw [7] (fun i wr => ∃ (k : Nat) (s : St), k ≤ cs.length ∧ i = .int .i64 k ∧ s.at wr g base v zs ∧ RR wr r A zs.length cap s ∧ Blk wr tb 50 [.pointer (some ⟨g, 0, Option.none⟩), .pointer (some ⟨r, 0, Option.none⟩)] ∧ Keeps None w wr) (fun i _ => cs.length - (intOf i).toNat)
  case atStart => exact ⟨0, _, Nat.zero_le _, rfl, hs2, hr2, hbx, hK2⟩
  case round =>
    clear hbx hs2 hr2 hK2
    obtain ⟨k, s, hk, rfl, hs, hR, hbx, hK⟩ := hrel
    by_cases hlt : k < cs.length ∧ k < 400
    · obtain ⟨hlt, hl4⟩ := hlt
      obtain ⟨c, b, o, rfl, hcc, -⟩ := (hB.grew hK).get k hlt
      have hbl : b < w.heap.size := hB.lt (by omega)
      have b0 := hbx.cell 0 _ rfl
      have b1 := hbx.cell 1 _ rfl
      have held : ∀ w', Keeps (Two2 g r) wr w' → (w'.cell? ⟨tb, 0, Option.none⟩ = some (.pointer (some ⟨g, 0, Option.none⟩)) ∧ w'.cell? ⟨tb, 1, Option.none⟩ = some (.pointer (some ⟨r, 0, Option.none⟩)) ∧ w'.cell? ⟨b, o + k, Option.none⟩ = some (.int .i64 c)) := fun w' h => ⟨h.cell b0 (fun e => by rcases e with e | e <;> simp at e <;> omega), h.cell b1 (fun e => by rcases e with e | e <;> simp at e <;> omega), h.cell hcc (fun e => by rcases e with e | e <;> simp at e <;> omega)⟩
      have HELD := Lib.hid held
      clear held
      go_wp2_with fail
      refine start_ (ds := []) (S := (fun w' => w'.cell? ⟨tb, 0, Option.none⟩ = some (.pointer (some ⟨g, 0, Option.none⟩)) ∧ w'.cell? ⟨tb, 1, Option.none⟩ = some (.pointer (some ⟨r, 0, Option.none⟩)) ∧ w'.cell? ⟨b, o + k, Option.none⟩ = some (.int .i64 c))) #[false, false, false, false, false, false, false] (by kernel_rfl) rfl rfl (HELD.out _ (Keeps.refl _ _).drew) (fun hS0 => ?_)
      refine take_ (i := 0) (N := some 25) (v := .agg #[.pointer (some ⟨g, 0, Option.none⟩), .pointer (some ⟨r, 0, Option.none⟩)]) #[true, false, false, false, false, false, false] rfl rfl (by kernel_rfl) (fun _ _ _ h => h) (Or.inl ⟨wanted_none rfl, by intro w' hSw; go_split_ands; go_simp⟩) hS0 rfl ?_
      try simp only [Act.put, List.setIfInBounds_toArray, List.set_cons_zero, List.set_cons_succ]
      refine pure_ (i := 1) (N := some 26) (v := .slice (some ⟨b, o, Option.none⟩) cs.length cap') #[true, true, false, false, false, false, false] rfl rfl (by kernel_rfl) (fun _ _ _ h => h) (Or.inl ⟨wanted_none rfl, fun w => by rfl⟩) rfl ?_
      try simp only [Act.put, List.setIfInBounds_toArray, List.set_cons_zero, List.set_cons_succ]
      refine pure_ (i := 2) (N := some 27) (v := .int .i64 k) #[true, true, true, false, false, false, false] rfl rfl (by kernel_rfl) (fun _ _ _ h => h) (Or.inl ⟨wanted_none rfl, fun w => by rfl⟩) rfl ?_
      try simp only [Act.put, List.setIfInBounds_toArray, List.set_cons_zero, List.set_cons_succ]
      refine pure_ (i := 3) (N := some 28) (v := .pointer (some ⟨b, o + k, Option.none⟩)) #[true, true, true, true, false, false, false] rfl rfl (by kernel_rfl) (fun _ _ _ h => h) (Or.inl ⟨wanted_none rfl, fun w => by go_simp⟩) rfl ?_
      try simp only [Act.put, List.setIfInBounds_toArray, List.set_cons_zero, List.set_cons_succ]
      refine take_ (i := 4) (N := some 29) (v := .int .i64 c) #[true, true, true, true, true, false, false] rfl rfl (by kernel_rfl) (fun _ _ _ h => h) (Or.inl ⟨wanted_none rfl, by intro w' hSw; go_split_ands; go_simp⟩) hS0 rfl ?_
      try simp only [Act.put, List.setIfInBounds_toArray, List.set_cons_zero, List.set_cons_succ]
      refine one_ (i := 5) (oi := ({ dst := some 30, op := Op.call { callee := Callee.value (Operand.func 28), args := #[Operand.tmp 25, Operand.tmp 29], argTypes := #[50, 3] }, type := 4, pos := "law.go:152", after := #[{ on := 0, ground := Ground.data }, { on := 4, ground := Ground.data }], guard := Option.none } : Oper)) (N := some 30) #[true, true, true, true, true, true, false] rfl rfl (by kernel_rfl) (by simp) ?_
      intro KK hKK
      refine goes_ Try.func28 (by kernel_rfl) rfl #[.agg #[.pointer (some ⟨g, 0, Option.none⟩), .pointer (some ⟨r, 0, Option.none⟩)], .int .i64 c] (wanted_none rfl) rfl rfl (by simp [Act.eval]) ?_
      refine (call_any g base v zs s r A cap _ (Rd.grew hs (Keeps.refl None wr).drew) (hR.grew (Keeps.refl None wr).drew) ((hA.grew hK).grew (Keeps.refl None wr).drew) hr HB.out hc (by omega) HV.out hoff hoffg c).mono ?_
      rintro e w2 ⟨rfl, hs2, hR2, hk2⟩
      have hkw : Keeps (Two2 g r) wr w2 := (Keeps.refl _ _).drew.trans hk2
      refine ⟨_, rfl, hKK.out _ _ (HELD.out _ hkw) (fun hS1 => ?_)⟩
      try simp only [Act.put, List.setIfInBounds_toArray, List.set_cons_zero, List.set_cons_succ]
      refine pure_ (i := 6) (N := some 31) (v := .bool false) #[true, true, true, true, true, true, true] rfl rfl (by kernel_rfl) (fun _ _ _ h => h) (Or.inl ⟨wanted_none rfl, fun w => by go_simp⟩) rfl ?_
      try simp only [Act.put, List.setIfInBounds_toArray, List.set_cons_zero, List.set_cons_succ]
      refine done_ (by kernel_rfl) ?_
      have hbx2 := hbx.keeps hkw (fun e => by rcases e with e | e <;> omega)
      have hK2 : Keeps None w w2 := hK.andThen hkw (fun i hi e => by rcases e with e | e <;> omega)
      go_wp2_with fail
      go_roundw
      case rel => exact ⟨k + 1, _, by omega, by go_num, hs2, hR2, hbx2, hK2⟩
      case measure => simp [intOf]; omega
    · have hlt' : ¬ (k : Int) < cs.length ∨ ¬ (k : Int) < 400 := by omega
      have b0 := hbx.cell 0 _ rfl
      have b1 := hbx.cell 1 _ rfl
      rcases (by omega : ¬ k < cs.length ∨ (k < cs.length ∧ ¬ k < 400)) with hq | ⟨hq, hq4⟩
      all_goals
        go_wp2_with fail
        refine (call_any g base v zs s r A cap _ hs hR (hA.grew hK) hr HB.out hc (by omega) HV.out hoff hoffg 5).mono ?_
        rintro e wx0 ⟨rfl, hsx0, hRx0, hkx0⟩
        obtain ⟨sx0, hssx0⟩ : ∃ q, q = callStep zs 5 s := ⟨_, rfl⟩
        rw [← hssx0] at hsx0 hRx0
        clear hssx0
        have hbxx0 := hbx.keeps hkx0 (fun e => by rcases e with e | e <;> omega)
        have hKx0 : Keeps None w wx0 := hK.andThen hkx0 (fun i hi e => by rcases e with e | e <;> omega)
        have b0 := hbxx0.cell 0 _ rfl
        have b1 := hbxx0.cell 1 _ rfl
        go_wp2_with fail
        refine (call_any g base v zs sx0 r A cap _ hsx0 hRx0 (hA.grew hKx0) hr HB.out hc (by omega) HV.out hoff hoffg 6).mono ?_
        rintro e wx1 ⟨rfl, hsx1, hRx1, hkx1⟩
        obtain ⟨sx1, hssx1⟩ : ∃ q, q = callStep zs 6 sx0 := ⟨_, rfl⟩
        rw [← hssx1] at hsx1 hRx1
        clear hssx1
        have hbxx1 := hbxx0.keeps hkx1 (fun e => by rcases e with e | e <;> omega)
        have hKx1 : Keeps None w wx1 := hKx0.andThen hkx1 (fun i hi e => by rcases e with e | e <;> omega)
        have b0 := hbxx1.cell 0 _ rfl
        have b1 := hbxx1.cell 1 _ rfl
        go_wp2_with fail
        refine (call_any g base v zs sx1 r A cap _ hsx1 hRx1 (hA.grew hKx1) hr HB.out hc (by omega) HV.out hoff hoffg 1).mono ?_
        rintro e wx2 ⟨rfl, hsx2, hRx2, hkx2⟩
        obtain ⟨sx2, hssx2⟩ : ∃ q, q = callStep zs 1 sx1 := ⟨_, rfl⟩
        rw [← hssx2] at hsx2 hRx2
        clear hssx2
        have hbxx2 := hbxx1.keeps hkx2 (fun e => by rcases e with e | e <;> omega)
        have hKx2 : Keeps None w wx2 := hKx1.andThen hkx2 (fun i hi e => by rcases e with e | e <;> omega)
        have b0 := hbxx2.cell 0 _ rfl
        have b1 := hbxx2.cell 1 _ rfl
        go_wp2_with fail
        refine (call_any g base v zs sx2 r A cap _ hsx2 hRx2 (hA.grew hKx2) hr HB.out hc (by omega) HV.out hoff hoffg 3).mono ?_
        rintro e wx3 ⟨rfl, hsx3, hRx3, hkx3⟩
        obtain ⟨sx3, hssx3⟩ : ∃ q, q = callStep zs 3 sx2 := ⟨_, rfl⟩
        rw [← hssx3] at hsx3 hRx3
        clear hssx3
        have hbxx3 := hbxx2.keeps hkx3 (fun e => by rcases e with e | e <;> omega)
        have hKx3 : Keeps None w wx3 := hKx2.andThen hkx3 (fun i hi e => by rcases e with e | e <;> omega)
        have b0 := hbxx3.cell 0 _ rfl
        have b1 := hbxx3.cell 1 _ rfl
        go_wp2_with fail
        go_ret
        exact ⟨rfl, hKx3.to_below⟩
end Go.Proofs.Ytnhhmkgcgogddaa.wireReads
