/- Messages in a row; the contract of raft's others. -/
import Derived.Test.YtdacdkidjgbdoaaRe
set_option linter.unusedVariables false
set_option linter.unusedSimpArgs false
namespace Go.Proofs.Ytdacdkidjgbdoaa
open Go Go.RowKit
namespace Rf
attribute [local go_sem ↓] Go.wp_at_zero Go.wp_at_succ

theorem info34f : (Try.prog.info? 34).map (fun i => (i.zero, i.size, i.bytes)) = some (some (.agg #[.int .u8 0, .int .i64 0, .int .i64 0, .int .i64 0, .int .i64 0, .int .i64 0, .slice none 0 0, .int .i64 0, .bool false]), 9, 88) := by kernel_rfl

def msgs (l : List (Msg × Value)) : List Value := l.flatMap (fun p => (mc p.1 p.2).toList)
theorem msgs_snoc (l : List (Msg × Value)) (p : Msg × Value) : msgs (l ++ [p]) = msgs l ++ (mc p.1 p.2).toList := by simp [msgs]
theorem msgs_len (l : List (Msg × Value)) : (msgs l).length = l.length * 9 := by
  induction l with
  | nil => rfl
  | cons p r ih => have : msgs (p :: r) = (mc p.1 p.2).toList ++ msgs r := by simp [msgs]
                   rw [this, List.length_append, ih, List.length_cons]; simp [mc]; omega
/-- v is a row of these messages, all in blocks from base on -/
def Out (w : World) (base : Nat) (v : Value) (ms : List Msg) : Prop :=
  ∃ l : List (Msg × Value), l.map Prod.fst = ms ∧ w.ownsRow base 34 9 v l.length (msgs l) ∧ ∀ p ∈ l, w.ownsRow base 39 2 p.2 p.1.entries.length (ents p.1.entries)
theorem Out.nil (w : World) (base : Nat) : Out w base (.slice none 0 0) [] := ⟨[], rfl, World.ownsRow_nil _ _ 34 9, by simp⟩
theorem own_below {w w' : World} {base t k n : Nat} {v : Value} {l : List Value} (h : w.ownsRow base t k v n l) (hB : Below w.heap.size w w') : w'.ownsRow base t k v n l := by
  refine ⟨h.1, ?_⟩
  rcases h.2 with h2 | ⟨g, cap, cur, rfl, hk, hh, r⟩
  · exact .inl h2
  · exact .inr ⟨g, cap, cur, rfl, hk, (hB.block g (Array.getElem?_eq_some_iff.1 hh).1).trans hh, r⟩
theorem Out.below {w w' : World} {base : Nat} {v : Value} {ms : List Msg} (h : Out w base v ms) (hB : Below w.heap.size w w') : Out w' base v ms := by
  obtain ⟨l, h1, h2, h3⟩ := h
  exact ⟨l, h1, own_below h2 hB, fun p hp => own_below (h3 p hp) hB⟩
theorem own_drewN {w : World} {base t k m n : Nat} {v : Value} {l : List Value} (h : w.ownsRow base t k v n l) : (w.drewN m).ownsRow base t k v n l := h
theorem Out.drewN {w : World} {base n : Nat} {v : Value} {ms : List Msg} (h : Out w base v ms) : Out (w.drewN n) base v ms := h
theorem mc_one_list (m : Msg) (v : Value) (hv : v.oneCell' = true) : ∀ u ∈ (mc m v).toList, u.oneCell' = true := by
  intro u hu
  simp only [mc, List.mem_cons, List.not_mem_nil, or_false] at hu
  rcases hu with rfl | rfl | rfl | rfl | rfl | rfl | rfl | rfl | rfl <;> first | rfl | exact hv
theorem own_slice {w : World} {base t k n : Nat} {v : Value} {l : List Value} (h : w.ownsRow base t k v n l) : ∃ a c, v = .slice a n c := by
  rcases h.2 with ⟨rfl, rfl⟩ | ⟨g, cap, cur, rfl, _⟩
  · exact ⟨_, _, rfl⟩
  · exact ⟨_, _, rfl⟩
theorem own_oneCell {w : World} {base t k n : Nat} {v : Value} {l : List Value} (h : w.ownsRow base t k v n l) : v.oneCell' = true := by
  rcases h.2 with ⟨rfl, _⟩ | ⟨g, cap, cur, rfl, _⟩ <;> rfl
theorem own_grown {w w' : World} {base t k n : Nat} {row : Option Nat} {v : Value} {l : List Value} (h : w.ownsRow base t k v n l) (hg : w.grownBy w' row) (hne : v.ownBlock ≠ row ∨ v.ownBlock = none) : w'.ownsRow base t k v n l := by
  refine ⟨h.1, ?_⟩
  rcases h.2 with h2 | ⟨g, cap, cur, rfl, hk, hh, r⟩
  · exact .inl h2
  · refine .inr ⟨g, cap, cur, rfl, hk, (hg.block g (Array.getElem?_eq_some_iff.1 hh).1 (fun e => ?_)).trans hh, r⟩
    rcases hne with e2 | e2
    · exact e2 e
    · cases e2
theorem own_type_ne {w : World} {b1 b2 t1 t2 k1 k2 n1 n2 : Nat} {v1 v2 : Value} {l1 l2 : List Value} (h1 : w.ownsRow b1 t1 k1 v1 n1 l1) (h2 : w.ownsRow b2 t2 k2 v2 n2 l2) (ht : t1 ≠ t2) : v1.ownBlock ≠ v2.ownBlock ∨ v1.ownBlock = none := by
  rcases h1.2 with ⟨rfl, _⟩ | ⟨g, cap, cur, rfl, hk, hh, r⟩
  · exact .inr rfl
  · left
    rcases h2.2 with ⟨rfl, _⟩ | ⟨g2, cap2, cur2, rfl, hk2, hh2, r2⟩
    · simp [Value.ownBlock]
    · intro e
      have e1 : g = g2 := by injection e
      subst e1
      rw [hh] at hh2
      injection hh2 with hh2
      injection hh2 with _ h4
      exact ht h4
theorem msg_lit (W : World) (m : Msg) (v : Value) : ∀ j u, (mc m v).toList[j]? = some u → (W.alloc (.cells #[.int .u8 m.kind, .int .i64 m.src, .int .i64 m.dst, .int .i64 m.term, .int .i64 m.index, .int .i64 m.logTerm, v, .int .i64 m.commit, .bool m.ok] 34)).cell? ((⟨W.heap.size, 0, none⟩ : Addr).add j) = some u :=
  World.news_of_block (heap_alloc_new W _)
theorem own_ge {w : World} {base t k n j : Nat} {v : Value} {l : List Value} (h : w.ownsRow base t k v n l) (hk : v.ownBlock = some j) : base ≤ j := by
  rcases h.2 with ⟨rfl, _⟩ | ⟨g, cap, cur, rfl, hb, _⟩
  · cases hk
  · have : g = j := by injection hk
    omega
/-- one message more -/
theorem Out.snoc {w w' : World} {base : Nat} {v v' v2 : Value} {l : List (Msg × Value)} {m : Msg} (h2 : w.ownsRow base 34 9 v l.length (msgs l)) (h3 : ∀ p ∈ l, w.ownsRow base 39 2 p.2 p.1.entries.length (ents p.1.entries))
    (hm : w.ownsRow base 39 2 v2 m.entries.length (ents m.entries)) (hg : w.grownBy w' v.ownBlock) (hown : w'.ownsRow base 34 9 v' (l.length + 1) (msgs l ++ (mc m v2).toList)) : Out w' base v' (l.map Prod.fst ++ [m]) := by
  refine ⟨l ++ [(m, v2)], by simp, by simpa [msgs_snoc] using hown, fun p hp => ?_⟩
  rcases List.mem_append.1 hp with hp | hp
  · exact own_grown (h3 p hp) hg (own_type_ne (h3 p hp) h2 (by decide))
  · simp only [List.mem_singleton] at hp
    subst hp
    exact own_grown hm hg (own_type_ne hm h2 (by decide))

/-- the messages to all others below n -/
def outs (D : Nat → Msg) (id : Nat) : Nat → List Msg
  | 0 => []
  | n + 1 => if n = id then outs D id n else outs D id n ++ [D n]
theorem outs_len (D : Nat → Msg) (id n : Nat) : (outs D id n).length ≤ n := by
  induction n with
  | zero => simp [outs]
  | succ n ih => unfold outs; split
                 · omega
                 · simp only [List.length_append, List.length_singleton]; omega

set_option maxRecDepth 100000 in
set_option maxHeartbeats 1000000 in
theorem others_send (g : Nat) (s : Srv) (v : Value) (hf : Fit s) (hnx : ∀ k, k < s.nodes → k ≠ s.id → 1 ≤ s.next k ∧ s.next k ≤ s.log.length + 1) (w : World) (h : Is w g s v) :
    Calls Try.prog 36 #[.pointer (some ⟨g, 0, none⟩), .func (.func 37) #[.pointer (some ⟨g, 0, none⟩)] #[]] w fun e w' => ∃ v', e = .returned v' ∧ Out w' w.heap.size v' (outs (sendTo s) s.id s.nodes) ∧ Below w.heap.size w w' := by
  obtain ⟨i0, hi, hz0, hz1, hz2⟩ := info_parts info34f
  obtain ⟨c1, -⟩ := h.nodes
  obtain ⟨c0, -⟩ := h.id
  have hlt := h.lt
  have hnodes := hf.nodes
  go_enter Try.func36, Try.ntmps36
  go_wp2_with fail
  go_loopw [5, 6, 11] (fun o _ c wr => ∃ i : Nat, i ≤ s.nodes ∧ c = .int .i64 i ∧ Below w.heap.size w wr ∧ Out wr w.heap.size o (outs (sendTo s) s.id i)) (fun _ _ c _ => s.nodes - (intOf c).toNat)
  case atStart => exact ⟨0, by omega, rfl, Below.refl _ _, Out.nil _ _⟩
  case round =>
    obtain ⟨i, hi7, rfl, hB, hO⟩ := hrel
    have h1 : Is wr g s v := h.only (S := fun _ => False) (Only.of_below hB) (fun e => e) (fun _ _ e => e)
    obtain ⟨c0, -⟩ := h1.id
    have hsz := hB.size
    rcases Nat.lt_or_ge i s.nodes with hlt2 | hge
    · have b1 : (i : Int) < s.nodes := by omega
      by_cases hid : i = s.id
      · have hE := Lib.hid (show outs (sendTo s) s.id (i + 1) = outs (sendTo s) s.id i by simp [outs, hid])
        have d2 : ((i : Int) != (s.id : Int)) = false := by simp; omega
        clear hid
        go_wp2_with fail
        go_roundw
        case rel => exact ⟨i + 1, by omega, by go_num, hB, by rw [hE.out]; exact hO⟩
        case measure => simp [intOf]; omega
      · have hE := Lib.hid (show outs (sendTo s) s.id (i + 1) = outs (sendTo s) s.id i ++ [sendTo s i] by simp [outs, hid])
        have d2 : ((i : Int) != (s.id : Int)) = true := by simp; omega
        obtain ⟨n1, n2⟩ := hnx i hlt2 hid
        obtain ⟨l, hl1, hl2, hl3⟩ := hO
        have hl4 : l.length ≤ 7 := by have := outs_len (sendTo s) s.id i; rw [← hl1] at this; simp at this; omega
        have HL := Lib.hid hl1
        clear hid hl1
        go_wp2_with fail
        refine (send_is g s v i (by omega) hf n1 n2 _ h1).mono ?_
        rintro e w2 ⟨v2, rfl, ho2, hB2⟩
        have hone := own_oneCell ho2
        obtain ⟨a2, k2, rfl⟩ := own_slice ho2
        have hB3 : Below w.heap.size w w2 := hB.trans (hB2.mono hsz)
        have hl2' := own_below hl2 hB2
        have hl3' := fun p hp => own_below (hl3 p hp) hB2
        have ho2' := own_base ho2 hsz
        have hsz2 := hB3.size
        generalize hD : sendTo s i = D at *
        clear hl2 hl3
        simp only [mc]
        go_wp2_with (at_builtin; go_loud (refine wpList_append_own _ rfl _ _ 30 rfl w.heap.size 34 i0 _ 9 88 Try.underlying30 hi hz0 hz1 hz2 rfl (by decide) _ l.length (msgs l) rfl (World.ownsRow.alloc hl2' _) ⟨w2.heap.size, 0, none⟩ 1 1 (mc D (.slice a2 D.entries.length k2)).toList rfl rfl (msg_lit w2 D _) (mc_one_list _ _ hone) (by unfold maxLen; omega) (by omega) (by simp; omega) ?_))
        intro v' w3 hown' hgrow _
        have hB4 : Below w.heap.size w w3 := (hB3.alloc hsz2 _).grown hgrow (by simp; omega) (fun k hk => ?_)
        · have hO' := Out.snoc (w := w2.alloc _) (World.ownsRow.alloc hl2' _) (fun p hp => World.ownsRow.alloc (hl3' p hp) _) (World.ownsRow.alloc ho2' _) hgrow hown'
          rw [HL.out] at hO'
          go_wp2_with fail
          go_roundw
          case rel => exact ⟨i + 1, by omega, by go_num, hB4, by rw [hE.out]; exact hO'⟩
          case measure => simp [intOf]; omega
        · exact own_ge hl2' hk
    · have b1 : ¬ (i : Int) < s.nodes := by omega
      obtain rfl : i = s.nodes := by omega
      go_wp2_with fail
      go_ret
      exact ⟨_, rfl, hO, hB⟩
end Rf
end Go.Proofs.Ytdacdkidjgbdoaa
