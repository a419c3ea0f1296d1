/- The drawing kit: l19Cut, l2Parse. -/
import Derived.Test.YtbomhfbiaedbiaaDoorD6
import Derived.Test.YtbomhfbiaedbiaaDoorW28
namespace Go.Proofs.YtbomhfbiaedbiaaDoor
open Go.RowKit Go.BigFrame AG

theorem infoStrD : (Tryd.prog.info? 9).map (fun i => (i.zero, i.size, i.bytes)) = some (some (.string ⟨#[]⟩), 1, 16) := by kernel_rfl

/-- Texts of at most N bytes each, as an owned slice. -/
def OwnStrs (w : World) (B : Nat) (v : Value) (ws : List ByteArray) : Prop := w.ownsRow B 9 1 v ws.length (ws.map Value.string)
theorem own_strs {w : World} {B : Nat} {v : Value} {ns : List ByteArray} (h : OwnStrs w B v ns) (hn : 0 < ns.length) :
    ∃ g cap, v = .slice (some ⟨g, 0, none⟩) ns.length cap ∧ B ≤ g ∧ g < w.heap.size ∧ ns.length ≤ cap ∧ cap ≤ 9223372036854775807 ∧
      ∀ i (hi : i < ns.length), w.cell? ⟨g, i, none⟩ = some (.string ns[i]) := by
  obtain ⟨g, cap, hv, h1, h2, h3, h4, h5⟩ := own_shape h hn
  exact ⟨g, cap, hv, h1, h2, h3, h4, fun i hi => h5 _ _ (by simp [hi])⟩

structure CutSt (w wr : World) (v : Value) (ws : List ByteArray) (N k : Nat) : Prop where
  own : OwnStrs wr w.heap.size v ws
  len : ws.length ≤ k
  small : ∀ x ∈ ws, x.size ≤ N
  below : Below w.heap.size w wr

theorem CutSt.add {w wr w1 : World} {v v' : Value} {ws : List ByteArray} {N k : Nat} {x : ByteArray} {o : Obj} (h : CutSt w wr v ws N k) (hx : x.size ≤ N) (hown : w1.ownsRow w.heap.size 9 1 v' (ws.length + 1) (ws.map Value.string ++ [.string x])) (hg : (wr.alloc o).grownBy w1 v.ownBlock) :
    CutSt w w1 v' (ws ++ [x]) N (k + 1) := by
  refine ⟨?_, ?_, ?_, ?_⟩
  · have : (ws ++ [x]).length = ws.length + 1 := by simp
    unfold OwnStrs
    rw [this, List.map_append]
    exact hown
  · have := h.len
    simp
    omega
  · intro y hy
    rcases List.mem_append.1 hy with hy | hy
    · exact h.small y hy
    · rw [List.mem_singleton.1 hy]; exact hx
  · exact (h.below.alloc h.below.size o).grown hg (by have := h.below.size; simp; omega) (fun k hk => (World.ownsRow.lt h.own k hk).1)

def CutPost (s : ByteArray) (w : World) (e : Ending) (w' : World) : Prop := ∃ v ws, e = .returned v ∧ CutSt w w' v ws s.size (s.size + 1)

set_option maxRecDepth 100000 in
set_option maxHeartbeats 2000000 in
theorem l19Cut_any (s : ByteArray) (c : Nat) (w : World) (hz : s.size ≤ 1000000) : Calls Tryd.prog 155 #[.string s, .int .u8 c] w (CutPost s w) := by
  obtain ⟨i0, hi, hz0, hz1, hz2⟩ := info_parts infoStrD
  have h0 : CutSt w (w.alloc (.cells #[] 9)) (.slice (some ⟨w.heap.size, 0, none⟩) 0 0) [] s.size 0 :=
    ⟨⟨rfl, .inr ⟨w.heap.size, 0, #[], rfl, Nat.le_refl _, heap_alloc_self _ _, Nat.le_refl _, Nat.zero_le _, rfl, rfl⟩⟩, Nat.le_refl _, fun x hx => (by cases hx), (Below.refl _ _).alloc (Nat.le_refl _) _⟩
  replace h0 := hid h0
  go_enter Tryd.func155, Tryd.ntmps155
  go_wp2_with fail
  go_loopw [5, 6, 7] (fun v f i wr => ∃ (ws : List ByteArray) (a k : Nat), i = .int .i64 k ∧ f = .int .i64 a ∧ (a ≤ k ∨ k = s.size + 1) ∧ k ≤ s.size + 1 ∧ CutSt w wr v ws s.size k) (fun _ _ i _ => s.size + 1 - (intOf i).toNat)
  case atStart => exact ⟨[], 0, 0, rfl, rfl, by omega, by omega, h0.out⟩
  case round =>
    obtain ⟨ws, a, k, rfl, rfl, ha, hk, hs⟩ := hrel
    have hzr := hs.below.size
    have hln := hs.len
    by_cases hlt : k ≤ s.size
    · have hak : a ≤ k := by omega
      have b1 : (0 : Int) ≤ (a : Int) := by omega
      have b2 : (a : Int) ≤ (k : Int) := by omega
      have b3 : (k : Int) ≤ (s.size : Int) := by omega
      have hxs : (s.extract a k).size ≤ s.size := by rw [ByteArray.size_extract]; omega
      have hown := hs.own
      unfold OwnStrs at hown
      replace hown := hid hown
      replace hs := hid hs
      by_cases hend : k = s.size
      · have e1 : ((k : Int) == (s.size : Int)) = true := by simp; omega
        replace hxs := hid hxs
        replace hend := hid hend
        go_wp2_with (at_builtin; refine wpList_append_lies _ (by rfl) _ _ 147 (by rfl) w.heap.size 9 i0 (.string ⟨#[]⟩) 1 16 Tryd.underlying147 hi hz0 hz1 hz2 rfl (by decide) _ ws.length _ (by rfl) (hown.out.alloc _) ⟨wr.heap.size, 0, none⟩ 1 1 [.string (s.extract a k)] (by rfl) (by rfl) (World.news_of_block (heap_alloc_new wr _)) ?c1 (by omega) ?c3 ?c4 ?c5 _ rfl ?_)
        case c1 => simp [Value.oneCell']
        case c3 => unfold maxLen; omega
        case c4 => omega
        case c5 => simp; omega
        intro gg cap w5 hown5 hgrow hat hlt5
        have hfin := hid (hs.out.add hxs.out hown5 hgrow)
        clear hown5 hgrow hat
        go_wp2_with fail
        go_roundw
        case rel => exact ⟨_, k + 1, k + 1, by go_num, by go_num, by omega, by omega, hfin.out⟩
        case measure => simp [intOf]; omega
      · have e1 : ((k : Int) == (s.size : Int)) = false := by simp; omega
        obtain ⟨y, hy, hy2⟩ := byte_some s k (by omega)
        have b4 : (0 : Int) ≤ (k : Int) ∧ (k : Int) < (s.size : Int) := by omega
        replace hend := hid hend
        by_cases hyc : y = c
        · have e2 : ((y : Int) == (c : Int)) = true := by simp; omega
          replace hyc := hid hyc
          replace hxs := hid hxs
          go_wp2_with (at_builtin; refine wpList_append_lies _ (by rfl) _ _ 147 (by rfl) w.heap.size 9 i0 (.string ⟨#[]⟩) 1 16 Tryd.underlying147 hi hz0 hz1 hz2 rfl (by decide) _ ws.length _ (by rfl) (hown.out.alloc _) ⟨wr.heap.size, 0, none⟩ 1 1 [.string (s.extract a k)] (by rfl) (by rfl) (World.news_of_block (heap_alloc_new wr _)) ?c1 (by omega) ?c3 ?c4 ?c5 _ rfl ?_)
          case c1 => simp [Value.oneCell']
          case c3 => unfold maxLen; omega
          case c4 => omega
          case c5 => simp; omega
          intro gg cap w5 hown5 hgrow hat hlt5
          have hfin := hid (hs.out.add hxs.out hown5 hgrow)
          clear hown5 hgrow hat
          go_wp2_with fail
          go_roundw
          case rel => exact ⟨_, k + 1, k + 1, by go_num, by go_num, by omega, by omega, hfin.out⟩
          case measure => simp [intOf]; omega
        · have e2 : ((y : Int) == (c : Int)) = false := by simp; omega
          replace hyc := hid hyc
          go_wp2_with fail
          go_roundw
          case rel => exact ⟨ws, a, k + 1, by go_num, rfl, by omega, by omega, ⟨hs.out.own, by have := hs.out.len; omega, hs.out.small, hs.out.below⟩⟩
          case measure => simp [intOf]; omega
    · go_wp2_with fail
      go_ret
      exact ⟨_, ws, rfl, ⟨hs.own, by have := hs.len; omega, hs.small, hs.below⟩⟩

def EdBPost (w : World) (e : Ending) (w' : World) : Prop := ∃ (x : Ed) (b : Bool), e = .returned (.tuple #[x.val, .bool b]) ∧ Below w.heap.size w w'

set_option maxRecDepth 100000 in
set_option maxHeartbeats 4000000 in
theorem l2Parse_any (s : ByteArray) (w : World) (hz : s.size ≤ 1000000) : Calls Tryd.prog 158 #[.string s] w (EdBPost w) := by
  have hres := Blk.new w 76 #[.int .i64 0, .int .i64 0, .int .i64 0]
  have hb0 : Below w.heap.size w (w.alloc (.cells #[.int .i64 0, .int .i64 0, .int .i64 0] 76)) := (Below.refl _ _).alloc (Nat.le_refl _) _
  generalize hw0 : w.alloc (.cells #[.int .i64 0, .int .i64 0, .int .i64 0] 76) = w0 at hres hb0
  replace hres := hid hres
  go_enter Tryd.func158, Tryd.ntmps158
  go_wp2_with fail
  clear hw0
  go_loopw [4] (fun i wr => ∃ (k : Nat), i = .int .i64 k ∧ k ≤ s.size ∧ w0 = wr) (fun i _ => s.size - (intOf i).toNat)
  case atStart => exact ⟨0, rfl, by omega, rfl⟩
  case round =>
    obtain ⟨k, rfl, hk, rfl⟩ := hrel
    have d0 := hres.out.cell 0
    have d1 := hres.out.cell 1
    have d2 := hres.out.cell 2
    have f0 := hres.out.frozen 0
    have f1 := hres.out.frozen 1
    have f2 := hres.out.frozen 2
    simp only [List.getElem?_toArray, List.getElem?_cons_zero, List.getElem?_cons_succ] at d0 d1 d2
    by_cases hlt : k < s.size
    · obtain ⟨y, hy, hy2⟩ := byte_some s k hlt
      have b4 : (0 : Int) ≤ (k : Int) ∧ (k : Int) < (s.size : Int) := by omega
      have t1 : (s.extract 0 k).size ≤ 1000000 := by rw [ByteArray.size_extract]; omega
      have t2 : (s.extract (k + 1) s.size).size ≤ 1000000 := by rw [ByteArray.size_extract]; omega
      obtain ⟨s1, hs1⟩ : ∃ s1, s.extract 0 k = s1 := ⟨_, rfl⟩
      obtain ⟨s2, hs2⟩ : ∃ s2, s.extract (k + 1) s.size = s2 := ⟨_, rfl⟩
      rw [hs1] at t1
      rw [hs2] at t2
      have b5 : ((k : Int) + 1) ≤ (s.size : Int) := by omega
      by_cases h1 : y < 97
      · go_wp2_with fail
        go_roundw
        case rel => exact ⟨k + 1, by go_num, by omega, by first | trivial | rfl⟩
        case measure => simp [intOf]; omega
      · by_cases h2 : 102 < y
        · go_wp2_with fail
          go_roundw
          case rel => exact ⟨k + 1, by go_num, by omega, by first | trivial | rfl⟩
          case measure => simp [intOf]; omega
        · go_wp2_with fail
          refine (l19Num_any s1 w0 t1).mono ?_
          rintro e w' ⟨n1, c1, rfl, rfl⟩
          go_wp2_with fail
          refine (l19Num_any s2 w0 t2).mono ?_
          rintro e w' ⟨n2, c2, rfl, rfl⟩
          cases c1
          · go_wp2_with (refine (l1At_any s k _ hlt).mono ?_; rintro e w1 ⟨rfl, rfl⟩)
            refine bodyPost_ret (v := .tuple #[.agg #[.int .i64 n1, .int .i64 (lz s k), .int .i64 n2], .bool false]) (by simp [results, Tryd.results158, go_sem, d0, d1, d2]) rfl ?_
            exact ⟨⟨n1, lz s k, n2⟩, _, rfl, by (repeat (first | exact Below.refl _ _ | assumption | refine Below.drew ?_ | refine Below.alloc ?_ (by first | omega | (simp; done) | (simp; omega)) _ | refine Below.setCell ?_ (by first | omega | (simp; done) | (simp; omega)) _))⟩
          · go_wp2_with (refine (l1At_any s k _ hlt).mono ?_; rintro e w1 ⟨rfl, rfl⟩)
            refine bodyPost_ret (v := .tuple #[.agg #[.int .i64 n1, .int .i64 (lz s k), .int .i64 n2], .bool c2]) (by simp [results, Tryd.results158, go_sem, d0, d1, d2]) rfl ?_
            exact ⟨⟨n1, lz s k, n2⟩, _, rfl, by (repeat (first | exact Below.refl _ _ | assumption | refine Below.drew ?_ | refine Below.alloc ?_ (by first | omega | (simp; done) | (simp; omega)) _ | refine Below.setCell ?_ (by first | omega | (simp; done) | (simp; omega)) _))⟩
    · go_wp2_with fail
      refine bodyPost_ret (v := .tuple #[.agg #[.int .i64 0, .int .i64 0, .int .i64 0], .bool false]) (by simp [results, Tryd.results158, go_sem, d0, d1, d2]) rfl ?_
      exact ⟨⟨0, 0, 0⟩, _, rfl, by (repeat (first | exact Below.refl _ _ | assumption | refine Below.drew ?_ | refine Below.alloc ?_ (by first | omega | (simp; done) | (simp; omega)) _ | refine Below.setCell ?_ (by first | omega | (simp; done) | (simp; omega)) _))⟩

end Go.Proofs.YtbomhfbiaedbiaaDoor
