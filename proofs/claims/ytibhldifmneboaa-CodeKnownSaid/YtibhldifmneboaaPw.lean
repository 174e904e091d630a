/- PutValue of package code at right lists: the bytes that the plain writer says. Printed by wip/gen/putvalue.py. -/
import Derived.Test.YtibhldifmneboaaPn
import Derived.Test.YtibhldifmneboaaCk
set_option linter.unusedVariables false
set_option linter.unusedSimpArgs false
namespace Go.Proofs.Ytibhldifmneboaa
open Go Go.RowKit Cd Rd
namespace Pu
attribute [local go_sem] st_complex'

/-- a node's bytes -/
def put1 (x : Nd) : List UInt8 :=
  UInt8.ofNat x.kind :: (if x.kind = 1 then [UInt8.ofNat x.int.toNat] else if x.kind = 2 then enc7 (zig x.int) else if x.kind = 3 then putT x.text else if x.kind = 4 then num16 x.num.1 x.num.2 else if x.kind = 5 then enc7 x.kids else [])
def putL (l : List Nd) : List UInt8 := l.flatMap put1
theorem putL_snoc (l : List Nd) (x : Nd) : putL (l ++ [x]) = putL l ++ put1 x := by simp [putL]
theorem num16_len (a b : Nat) : (num16 a b).length = 16 := by simp [num16, b8_len]
theorem put1_len {x : Nd} (h : Nd.good x) : (put1 x).length ≤ 5000 := by
  rcases h with rfl | ⟨b, hb, rfl⟩ | ⟨i, h1, h2, rfl⟩ | ⟨s, hs, rfl⟩ | ⟨z, hz, _, _, rfl⟩ | ⟨k, hk, rfl⟩
  · simp [put1]
  · simp [put1]
  · have := enc7_len10 (zig_lt h1 h2); simp [put1]; omega
  · have := enc7_len10 (n := s.size) (by omega); have := putT_len s; simp [put1]; omega
  · have := num16_len z.1 z.2; simp [put1]; omega
  · have := enc7_len10 (n := k) (by omega); simp [put1]; omega
theorem putL_len {l : List Nd} (h : ∀ x ∈ l, Nd.good x) : (putL l).length ≤ 5000 * l.length := by
  induction l with
  | nil => simp [putL]
  | cons x r ih =>
    have h1 := put1_len (h x (by simp))
    have h2 := ih (fun y hy => h y (by simp [hy]))
    have e : putL (x :: r) = put1 x ++ putL r := by simp [putL]
    rw [e, List.length_append, List.length_cons]
    omega

theorem one_cell (W : World) (u : Value) {b : Nat} (hb : W.heap.size = b) : ∀ j v, [u][j]? = some v → (W.alloc (.cells #[u] 5)).cell? ((⟨b, 0, none⟩ : Addr).add j) = some v := by
  intro j v hj
  subst hb
  match j, hj with
  | 0, hj => simp at hj; subst hj; simp [Addr.add]
  | (j + 1), hj => simp at hj
theorem one_one {k : IntKind} (n : Int) : ∀ u ∈ [Value.int k n], u.oneCell' = true := by
  intro u hu
  simp only [List.mem_singleton] at hu
  subst hu
  rfl
theorem nb_kept {wr w9 : World} {base : Nat} {v : Value} {k : Nat} {xs : List Value} {cs : Array Value} {o : Obj} (hown : wr.ownsRow base 5 1 v k xs) (hgrow : ((wr.alloc (.cells cs 37)).alloc o).grownBy w9 v.ownBlock) : w9.heap[wr.heap.size]? = some (.cells cs 37 (0, 0)) := by
  rw [hgrow.block _ (by simp; omega) (fun e => by have := (hown.lt _ e.symm).2; omega), Below.heap_alloc _ _ _ (by simp)]
  exact heap_alloc_new wr _
theorem nb_cells {w9 : World} {B : Nat} {cs : Array Value} (h : w9.heap[B]? = some (.cells cs 37 (0, 0))) (j : Nat) (u : Value) (hj : cs[j]? = some u) : w9.cell? ⟨B, j, none⟩ = some u := by
  simp only [World.cell?, h]
  simpa using hj

set_option maxHeartbeats 2000000 in
set_option maxRecDepth 100000 in
theorem putValue_any (b cap : Nat) (xs : List Nd) (hr : Right xs) (w : World) (hI : w.ownsRow 0 37 5 (.slice (some ⟨b, 0, none⟩) xs.length cap) xs.length (nds xs)) (hbw : b < w.heap.size) :
    Calls Try.prog 45 #[.slice (some ⟨b, 0, none⟩) xs.length cap] w fun e w' => ∃ v, e = .returned (.tuple #[v, .int .i64 0]) ∧ w'.ownsRow w.heap.size 5 1 v (putL xs).length (bc (putL xs)) ∧ Below w.heap.size w w' := by
  obtain ⟨i0, hi, hz0, hz1, hz2⟩ := info_parts (P := Try.prog) (e := 5) (z := .int .u8 0) (size := 1) (bytes := 1) (by rfl)
  have cc := check_any b cap xs hr w hI hbw
  have hl1 : (xs.length : Int) ≤ 1024 := by have := hr.len; omega
  have hlw : IntKind.i64.wrap (xs.length : Int) = xs.length := by rw [IntKind.wrap_i64]; omega
  have hcap : xs.length ≤ cap := by
    rcases hI.2 with ⟨h, _⟩ | ⟨g, c, cur, h, _, _, hc, _⟩
    · cases h
    · injection h with h1 h2 h3; omega
  go_enter Try.func45, Try.ntmps45
  go_wp2_with fail
  refine cc.mono ?_
  rintro e w1 ⟨rfl, hb1⟩
  go_wp2_with fail
  go_loopw [5, 15] (fun v i wr => ∃ k : Nat, k ≤ xs.length ∧ i = .int .i64 k ∧ wr.ownsRow w.heap.size 5 1 v (putL (xs.take k)).length (bc (putL (xs.take k))) ∧ Below w.heap.size w wr) (fun _ i _ => xs.length - (intOf i).toNat)
  case atStart => exact ⟨0, Nat.zero_le _, rfl, World.ownsRow_nil _ _ 5 1, hb1⟩
  case round =>
    obtain ⟨k, hk, rfl, hown, hB⟩ := hrel
    by_cases hlt : k < xs.length
    · obtain ⟨x, hx⟩ : ∃ x, xs[k]? = some x := ⟨_, List.getElem?_eq_getElem hlt⟩
      have hgx := hr.good x (List.mem_of_getElem? hx)
      have hlL : (putL (xs.take k)).length ≤ 5000 * 1024 := by
        have h1 := putL_len (l := xs.take k) (fun y hy => hr.good y (List.mem_of_mem_take hy))
        have h2 : (xs.take k).length ≤ 1024 := by rw [List.length_take]; have := hr.len; omega
        omega
      have hst : xs.take (k + 1) = xs.take k ++ [x] := by rw [List.take_add_one, hx]; rfl
      have HP := Lib.hid (show putL (xs.take (k + 1)) = putL (xs.take k) ++ put1 x by rw [hst, putL_snoc])
      have hkl : (k : Int) < xs.length := by omega
      have x0 : wr.cell? ⟨b, k * 5, none⟩ = some (.int .u8 x.kind) := (hB.cell (p := ⟨b, k * 5, none⟩) hbw).trans (row_at hI hx (j := 0) (by omega) rfl)
      have x1 : wr.cell? ⟨b, k * 5 + 1, none⟩ = some (.int .i64 x.kids) := (hB.cell (p := ⟨b, k * 5 + 1, none⟩) hbw).trans (row_at hI hx (j := 1) (by omega) rfl)
      have x2 : wr.cell? ⟨b, k * 5 + 2, none⟩ = some (.int .i64 x.int) := (hB.cell (p := ⟨b, k * 5 + 2, none⟩) hbw).trans (row_at hI hx (j := 2) (by omega) rfl)
      have x3 : wr.cell? ⟨b, k * 5 + 3, none⟩ = some (.string x.text) := (hB.cell (p := ⟨b, k * 5 + 3, none⟩) hbw).trans (row_at hI hx (j := 3) (by omega) rfl)
      have x4 : wr.cell? ⟨b, k * 5 + 4, none⟩ = some (.complex .f64 x.num.1 x.num.2) := (hB.cell (p := ⟨b, k * 5 + 4, none⟩) hbw).trans (row_at hI hx (j := 4) (by omega) rfl)
      have hbwr : b < wr.heap.size := Nat.lt_of_lt_of_le hbw hB.size
      generalize putL (xs.take k) = L0 at *
      clear hx hst cc
      rcases hgx with rfl | ⟨c, hc, rfl⟩ | ⟨i, hi1, hi2, rfl⟩ | ⟨s, hs, rfl⟩ | ⟨z, hz, hza, hzb, rfl⟩ | ⟨d, hd, rfl⟩
      · simp only [show ((0 : Nat) : Int) = 0 from rfl, show ((0 : Nat) : Int) = 0 from rfl] at x0 x1 x2
        go_wp2_with (at_builtin; refine wpList_append_own _ rfl _ _ 44 rfl w.heap.size 5 i0 (.int .u8 0) 1 1 Try.underlying44 hi hz0 hz1 hz2 rfl (by decide) _ _ _ rfl ((hown.alloc _).alloc _) ⟨_, 0, none⟩ 1 1 [.int .u8 0] rfl rfl (one_cell _ _ (by simp)) (one_one _) (by unfold maxLen; omega) (by omega) (by have := hB.size; simp; omega) ?_)
        intro v' w9 hown9 hgrow9 _
        have nb := nb_kept (wr := wr) (cs := #[.int .u8 0, .int .i64 0, .int .i64 0, .string ⟨#[]⟩, .complex .f64 0 0]) hown hgrow9
        have hB9 : Below w.heap.size w w9 := ((hB.alloc hB.size _).alloc (by have := hB.size; simp; omega) _).grown hgrow9 (by have := hB.size; simp; omega) (fun k hk => (hown.lt _ hk).1)
        have n0 := nb_cells nb 0 _ rfl
        have n1 := nb_cells nb 1 _ rfl
        have n2 := nb_cells nb 2 _ rfl
        have n3 := nb_cells nb 3 _ rfl
        have n4 := nb_cells nb 4 _ rfl
        have hnl : wr.heap.size < w9.heap.size := (Array.getElem?_eq_some_iff.1 nb).1
        clear nb hgrow9
        go_wp2
        go_roundw
        case rel =>
          refine ⟨k + 1, by omega, by simp, ?_, hB9⟩
          have e1 : put1 {} = [UInt8.ofNat 0] := rfl
          rw [HP.out, e1]
          rw [List.length_append, bc_append]
          exact hown9
        case measure => simp [intOf]; omega
      · have hc' : (c : Int) ≤ 1 := by omega
        have hcu : (c : Int) % 256 = c := by omega
        simp only [show ((1 : Nat) : Int) = 1 from rfl, show ((0 : Nat) : Int) = 0 from rfl] at x0 x1 x2
        go_wp2_with (at_builtin; refine wpList_append_own _ rfl _ _ 44 rfl w.heap.size 5 i0 (.int .u8 0) 1 1 Try.underlying44 hi hz0 hz1 hz2 rfl (by decide) _ _ _ rfl ((hown.alloc _).alloc _) ⟨_, 0, none⟩ 1 1 [.int .u8 1] rfl rfl (one_cell _ _ (by simp)) (one_one _) (by unfold maxLen; omega) (by omega) (by have := hB.size; simp; omega) ?_)
        intro v' w9 hown9 hgrow9 _
        have nb := nb_kept (wr := wr) (cs := #[.int .u8 1, .int .i64 0, .int .i64 c, .string ⟨#[]⟩, .complex .f64 0 0]) hown hgrow9
        have hB9 : Below w.heap.size w w9 := ((hB.alloc hB.size _).alloc (by have := hB.size; simp; omega) _).grown hgrow9 (by have := hB.size; simp; omega) (fun k hk => (hown.lt _ hk).1)
        have n0 := nb_cells nb 0 _ rfl
        have n1 := nb_cells nb 1 _ rfl
        have n2 := nb_cells nb 2 _ rfl
        have n3 := nb_cells nb 3 _ rfl
        have n4 := nb_cells nb 4 _ rfl
        have hnl : wr.heap.size < w9.heap.size := (Array.getElem?_eq_some_iff.1 nb).1
        clear nb hgrow9
        go_wp2_with (at_builtin; refine wpList_append_own _ rfl _ _ 44 rfl w.heap.size 5 i0 (.int .u8 0) 1 1 Try.underlying44 hi hz0 hz1 hz2 rfl (by decide) _ _ _ rfl (hown9.alloc _) ⟨_, 0, none⟩ 1 1 [.int .u8 c] rfl rfl (one_cell _ _ (by simp)) (one_one _) (by unfold maxLen; omega) (by omega) (by have := hB9.size; simp; omega) ?_)
        intro v2 w10 hown10 hgrow10 _
        have hB10 : Below w.heap.size w w10 := (hB9.alloc hB9.size _).grown hgrow10 (by have := hB9.size; simp; omega) (fun k hk => (hown9.lt _ hk).1)
        clear hgrow10
        go_wp2
        go_roundw
        case rel =>
          refine ⟨k + 1, by omega, by simp, ?_, hB10⟩
          have e1 : put1 { kind := 1, int := (c : Int) } = [UInt8.ofNat 1] ++ [UInt8.ofNat c] := by simp [put1]
          rw [HP.out, e1]
          have e2 : bc ([UInt8.ofNat 1] ++ [UInt8.ofNat c]) = [.int .u8 1] ++ [.int .u8 c] := by rw [bc_append, bc_one 1 (by omega), bc_one c (by omega)]; rfl
          rw [List.length_append, bc_append, e2]
          exact hown10
        case measure => simp [intOf]; omega
      · simp only [show ((2 : Nat) : Int) = 2 from rfl, show ((0 : Nat) : Int) = 0 from rfl] at x0 x1 x2
        go_wp2_with (at_builtin; refine wpList_append_own _ rfl _ _ 44 rfl w.heap.size 5 i0 (.int .u8 0) 1 1 Try.underlying44 hi hz0 hz1 hz2 rfl (by decide) _ _ _ rfl ((hown.alloc _).alloc _) ⟨_, 0, none⟩ 1 1 [.int .u8 2] rfl rfl (one_cell _ _ (by simp)) (one_one _) (by unfold maxLen; omega) (by omega) (by have := hB.size; simp; omega) ?_)
        intro v' w9 hown9 hgrow9 _
        have nb := nb_kept (wr := wr) (cs := #[.int .u8 2, .int .i64 0, .int .i64 i, .string ⟨#[]⟩, .complex .f64 0 0]) hown hgrow9
        have hB9 : Below w.heap.size w w9 := ((hB.alloc hB.size _).alloc (by have := hB.size; simp; omega) _).grown hgrow9 (by have := hB.size; simp; omega) (fun k hk => (hown.lt _ hk).1)
        have n0 := nb_cells nb 0 _ rfl
        have n1 := nb_cells nb 1 _ rfl
        have n2 := nb_cells nb 2 _ rfl
        have n3 := nb_cells nb 3 _ rfl
        have n4 := nb_cells nb 4 _ rfl
        have hnl : wr.heap.size < w9.heap.size := (Array.getElem?_eq_some_iff.1 nb).1
        clear nb hgrow9
        have hL9 : w9.ownsRow w.heap.size 5 1 v' (L0 ++ [UInt8.ofNat 2]).length (bc (L0 ++ [UInt8.ofNat 2])) := by rw [List.length_append, bc_append, bc_one 2 (by omega)]; exact hown9
        have hLl : (L0 ++ [UInt8.ofNat 2]).length ≤ 1000000000 := by rw [List.length_append]; simp; omega
        have ca := appendUint_any w.heap.size (zig i) v' _ (zig_lt hi1 hi2) hLl w9 hB9.size hL9
        go_wp2_with fail
        refine (zig_any i hi1 hi2 _).mono ?_
        rintro e w8 ⟨rfl, rfl⟩
        go_wp2_with fail
        refine ca.mono ?_
        rintro e w10 ⟨v2, rfl, hown10, hB10⟩
        go_wp2
        go_roundw
        case rel =>
          refine ⟨k + 1, by omega, by simp, ?_, hB9.trans hB10⟩
          have e1 : put1 { kind := 2, int := i } = [UInt8.ofNat 2] ++ enc7 (zig i) := by simp [put1]
          rw [HP.out, e1]
          have e2 := hown10
          rw [List.append_assoc] at e2
          rw [List.length_append]
          simpa [Nat.add_assoc, Nat.add_comm, Nat.add_left_comm] using e2
        case measure => simp [intOf]; omega
      · simp only [show ((3 : Nat) : Int) = 3 from rfl, show ((0 : Nat) : Int) = 0 from rfl] at x0 x1 x2
        go_wp2_with (at_builtin; refine wpList_append_own _ rfl _ _ 44 rfl w.heap.size 5 i0 (.int .u8 0) 1 1 Try.underlying44 hi hz0 hz1 hz2 rfl (by decide) _ _ _ rfl ((hown.alloc _).alloc _) ⟨_, 0, none⟩ 1 1 [.int .u8 3] rfl rfl (one_cell _ _ (by simp)) (one_one _) (by unfold maxLen; omega) (by omega) (by have := hB.size; simp; omega) ?_)
        intro v' w9 hown9 hgrow9 _
        have nb := nb_kept (wr := wr) (cs := #[.int .u8 3, .int .i64 0, .int .i64 0, .string s, .complex .f64 0 0]) hown hgrow9
        have hB9 : Below w.heap.size w w9 := ((hB.alloc hB.size _).alloc (by have := hB.size; simp; omega) _).grown hgrow9 (by have := hB.size; simp; omega) (fun k hk => (hown.lt _ hk).1)
        have n0 := nb_cells nb 0 _ rfl
        have n1 := nb_cells nb 1 _ rfl
        have n2 := nb_cells nb 2 _ rfl
        have n3 := nb_cells nb 3 _ rfl
        have n4 := nb_cells nb 4 _ rfl
        have hnl : wr.heap.size < w9.heap.size := (Array.getElem?_eq_some_iff.1 nb).1
        clear nb hgrow9
        have hL9 : w9.ownsRow w.heap.size 5 1 v' (L0 ++ [UInt8.ofNat 3]).length (bc (L0 ++ [UInt8.ofNat 3])) := by rw [List.length_append, bc_append, bc_one 3 (by omega)]; exact hown9
        have hLl : (L0 ++ [UInt8.ofNat 3]).length ≤ 1000000000 := by rw [List.length_append]; simp; omega
        have ca := appendText_any w.heap.size s v' _ (by omega) hLl w9 hB9.size hL9
        go_wp2_with fail
        refine ca.mono ?_
        rintro e w10 ⟨v2, rfl, hown10, hB10⟩
        go_wp2
        go_roundw
        case rel =>
          refine ⟨k + 1, by omega, by simp, ?_, hB9.trans hB10⟩
          have e1 : put1 { kind := 3, text := s } = [UInt8.ofNat 3] ++ putT s := by simp [put1]
          rw [HP.out, e1]
          have e2 := hown10
          have e3 : L0 ++ ([UInt8.ofNat 3] ++ putT s) = L0 ++ [UInt8.ofNat 3] ++ enc7 s.size ++ s.data.toList := by simp [putT]
          have e4 : (L0 ++ [UInt8.ofNat 3] ++ enc7 s.size ++ s.data.toList).length = (L0 ++ [UInt8.ofNat 3]).length + (enc7 s.size).length + s.size := by rw [List.length_append, List.length_append, Array.length_toList]; rfl
          rw [e3, e4]
          exact e2
        case measure => simp [intOf]; omega
      · simp only [show ((4 : Nat) : Int) = 4 from rfl, show ((0 : Nat) : Int) = 0 from rfl] at x0 x1 x2
        go_wp2_with (at_builtin; refine wpList_append_own _ rfl _ _ 44 rfl w.heap.size 5 i0 (.int .u8 0) 1 1 Try.underlying44 hi hz0 hz1 hz2 rfl (by decide) _ _ _ rfl ((hown.alloc _).alloc _) ⟨_, 0, none⟩ 1 1 [.int .u8 4] rfl rfl (one_cell _ _ (by simp)) (one_one _) (by unfold maxLen; omega) (by omega) (by have := hB.size; simp; omega) ?_)
        intro v' w9 hown9 hgrow9 _
        have nb := nb_kept (wr := wr) (cs := #[.int .u8 4, .int .i64 0, .int .i64 0, .string ⟨#[]⟩, .complex .f64 z.1 z.2]) hown hgrow9
        have hB9 : Below w.heap.size w w9 := ((hB.alloc hB.size _).alloc (by have := hB.size; simp; omega) _).grown hgrow9 (by have := hB.size; simp; omega) (fun k hk => (hown.lt _ hk).1)
        have n0 := nb_cells nb 0 _ rfl
        have n1 := nb_cells nb 1 _ rfl
        have n2 := nb_cells nb 2 _ rfl
        have n3 := nb_cells nb 3 _ rfl
        have n4 := nb_cells nb 4 _ rfl
        have hnl : wr.heap.size < w9.heap.size := (Array.getElem?_eq_some_iff.1 nb).1
        clear nb hgrow9
        have hL9 : w9.ownsRow w.heap.size 5 1 v' (L0 ++ [UInt8.ofNat 4]).length (bc (L0 ++ [UInt8.ofNat 4])) := by rw [List.length_append, bc_append, bc_one 4 (by omega)]; exact hown9
        have hLl : (L0 ++ [UInt8.ofNat 4]).length ≤ 1000000000 := by rw [List.length_append]; simp; omega
        have ca := appendNum_any w.heap.size z.1 z.2 v' _ hza hzb hLl w9 hB9.size hL9
        go_wp2_with fail
        refine ca.mono ?_
        rintro e w10 ⟨v2, rfl, hown10, hB10⟩
        go_wp2
        go_roundw
        case rel =>
          refine ⟨k + 1, by omega, by simp, ?_, hB9.trans hB10⟩
          have e1 : put1 { kind := 4, num := z } = [UInt8.ofNat 4] ++ num16 z.1 z.2 := by simp [put1]
          rw [HP.out, e1]
          have e2 := hown10
          rw [List.append_assoc] at e2
          rw [List.length_append]
          simpa [Nat.add_assoc, Nat.add_comm, Nat.add_left_comm, num16_len] using e2
        case measure => simp [intOf]; omega
      · have hd1 : (d : Int) ≤ 1024 := by omega
        have hdu : IntKind.u64.wrap (d : Int) = d := by rw [IntKind.wrap_u64]; omega
        simp only [show ((5 : Nat) : Int) = 5 from rfl, show ((0 : Nat) : Int) = 0 from rfl] at x0 x1 x2
        go_wp2_with (at_builtin; refine wpList_append_own _ rfl _ _ 44 rfl w.heap.size 5 i0 (.int .u8 0) 1 1 Try.underlying44 hi hz0 hz1 hz2 rfl (by decide) _ _ _ rfl ((hown.alloc _).alloc _) ⟨_, 0, none⟩ 1 1 [.int .u8 5] rfl rfl (one_cell _ _ (by simp)) (one_one _) (by unfold maxLen; omega) (by omega) (by have := hB.size; simp; omega) ?_)
        intro v' w9 hown9 hgrow9 _
        have nb := nb_kept (wr := wr) (cs := #[.int .u8 5, .int .i64 d, .int .i64 0, .string ⟨#[]⟩, .complex .f64 0 0]) hown hgrow9
        have hB9 : Below w.heap.size w w9 := ((hB.alloc hB.size _).alloc (by have := hB.size; simp; omega) _).grown hgrow9 (by have := hB.size; simp; omega) (fun k hk => (hown.lt _ hk).1)
        have n0 := nb_cells nb 0 _ rfl
        have n1 := nb_cells nb 1 _ rfl
        have n2 := nb_cells nb 2 _ rfl
        have n3 := nb_cells nb 3 _ rfl
        have n4 := nb_cells nb 4 _ rfl
        have hnl : wr.heap.size < w9.heap.size := (Array.getElem?_eq_some_iff.1 nb).1
        clear nb hgrow9
        have hL9 : w9.ownsRow w.heap.size 5 1 v' (L0 ++ [UInt8.ofNat 5]).length (bc (L0 ++ [UInt8.ofNat 5])) := by rw [List.length_append, bc_append, bc_one 5 (by omega)]; exact hown9
        have hLl : (L0 ++ [UInt8.ofNat 5]).length ≤ 1000000000 := by rw [List.length_append]; simp; omega
        have ca := appendUint_any w.heap.size d v' _ (by omega) hLl w9 hB9.size hL9
        go_wp2_with fail
        refine ca.mono ?_
        rintro e w10 ⟨v2, rfl, hown10, hB10⟩
        go_wp2
        go_roundw
        case rel =>
          refine ⟨k + 1, by omega, by simp, ?_, hB9.trans hB10⟩
          have e1 : put1 { kind := 5, kids := d } = [UInt8.ofNat 5] ++ enc7 d := by simp [put1]
          rw [HP.out, e1]
          have e2 := hown10
          rw [List.append_assoc] at e2
          rw [List.length_append]
          simpa [Nat.add_assoc, Nat.add_comm, Nat.add_left_comm] using e2
        case measure => simp [intOf]; omega
    · obtain rfl : k = xs.length := by omega
      rw [List.take_length] at hown
      go_wp2
      go_ret2
      exact ⟨_, rfl, hown, hB⟩
end Pu
end Go.Proofs.Ytibhldifmneboaa
