/- The program's contracts: texts joined into one: IpK IpL IpM IpN IpO Brk IpP LawIp1 LawSp1 LawSp2 LawSp3 LawSp4 Nil2 ArgsIp0 ArgsSp. -/
import Derived.Test.YtnajpmepcffnaaaGreatDoorXlb
import Derived.Test.YtnajpmepcffnaaaGreatDoorXvc
import Derived.Test.YtnajpmepcffnaaaGreatDoorXvb

section
/- ipfix: Message. -/
namespace Go.Proofs.YtnajpmepcffnaaaGreatDoor
open Go.Ve

def bll (l : List Bs) : List (List AV) := l.map fun b => [.sl (bcl b)]
theorem bll_len (l : List Bs) : (bll l).length = l.length := List.length_map ..
theorem bll_get {l : List Bs} {i : Nat} {b : Bs} (h : l[i]? = some b) : (bll l)[(i : Int).toNat]? = some [.sl (bcl b)] := by
  rw [Int.toNat_natCast, bll, List.getElem?_map, h]; rfl
def hhv (h : Hh) : AV := .agg [.int .u32 (h.time : Int), .int .u32 (h.seq : Int), .int .u32 (h.dom : Int), .int .i64 h.lost, .int .i64 h.idle]
structure HhOk (h : Hh) : Prop where
  time : h.time < 4294967296
  seq : h.seq < 4294967296
  dom : h.dom < 4294967296
def hBox (h : Hh) : Ob := .box 29 [.int .u32 (h.time : Int), .int .u32 (h.seq : Int), .int .u32 (h.dom : Int), .int .i64 h.lost, .int .i64 h.idle]
theorem flat_take {l : List Bs} {i : Nat} {b : Bs} (h : l[i]? = some b) : (l.take (i + 1)).flatten = (l.take i).flatten ++ b := by
  have hi := (List.getElem?_eq_some_iff.1 h).1
  rw [List.take_add_one, h, List.flatten_append]
  show _ ++ (b ++ []) = _
  rw [List.append_nil]
theorem flat_le : ∀ (l : List Bs) (i : Nat), (l.take i).flatten.length ≤ l.flatten.length
  | [], i => by rw [List.take_nil]; exact Nat.le_refl _
  | x :: r, 0 => Nat.zero_le _
  | x :: r, i + 1 => by
    rw [List.take_succ_cons, List.flatten_cons, List.flatten_cons, List.length_append, List.length_append]
    have := flat_le r i
    omega
theorem message_no (h : Hh) (l : List Bs) (hl : l.length ≤ 1000000000) (hn : 65535 < 16 + l.flatten.length) : DCall P 13 [hhv h, .sl (bll l)] [] (.tup [.nils, .int .i64 2]) [] := by
  have hbl := bll_len l
  refine DCall.of_awp tok mixed fn13 (Nat.le_of_ble_eq_true rfl) ?_
  (conv => whnf); repeat' ((with_reducible refine Box.mk ?_) <;> conv => whnf)
  refine aloop (fun i : Nat => i ≤ l.length ∧ 16 + (l.take i).flatten.length ≤ 65535) (fun i => ⟨envL [(6, .int .i64 ((16 + (l.take i).flatten.length : Nat) : Int)), (12, .sl (bll l)), (13, .int .i64 ((bll l).length : Int)), (14, .int .i64 (i : Int))], []⟩) (fun i => l.length - i) 0 ⟨Nat.zero_le _, by show 16 + 0 ≤ _; omega⟩ (weak_ren_to [] rfl rfl rfl ⟨rfl, rfl, rfl, rfl, trivial⟩) ?_
  rintro i ⟨hi, hs⟩
  by_cases hlt : i < l.length
  · have hx := List.getElem?_eq_getElem hlt
    have hft := flat_take hx
    generalize l[i] = b at *
    have hbb := bcl_len b
    have hfl : (l.take (i + 1)).flatten.length = (l.take i).flatten.length + b.length := by rw [hft, List.length_append]
    (conv => whnf); (repeat' ((with_reducible first | refine Box.mk ?_ | refine And.intro (fun _ => ?_) (fun _ => ?_) | fail) <;> conv => whnf))
    rotate_left
    · exfalso; rename_i h; have h : ¬ (i : Int) < ((bll l).length : Int) := h; omega
    refine ⟨by omega, [.sl (bcl b)], bll_get hx, rfl, ?_⟩
    (conv => whnf); (repeat' ((with_reducible first | refine Box.mk ?_ | refine And.intro (fun _ => ?_) (fun _ => ?_) | fail) <;> conv => whnf))
    · exact weak_ren_to [] rfl rfl rfl ⟨rfl, trivial⟩
    · rename_i h2
      rw [wrap_i64 (by omega) (by omega)] at h2
      refine ⟨i + 1, ⟨hlt, by omega⟩, by omega, weak_ren_to [] rfl rfl rfl ⟨?_, rfl, rfl, wrap_nat (m := 1) (by omega), trivial⟩⟩
      show AV.int .i64 (IntKind.i64.wrap _) = _
      rw [wrap_i64 (by omega) (by omega)]
      exact congrArg (AV.int .i64) (by omega)
  · exfalso
    have : i = l.length := by omega
    subst this
    rw [List.take_length] at hs
    omega
set_option maxHeartbeats 4000000 in
theorem message_ok (h : Hh) (hh : HhOk h) (l : List Bs) (hl : l.length ≤ 1000000000) (hn : 16 + l.flatten.length ≤ 65535) : DCall P 13 [hhv h, .sl (bll l)] [] (.tup [.sl (bcl (msgB h l.flatten)), .int .i64 0]) [] := by
  have hbl := bll_len l
  obtain ⟨h1, h2, h3⟩ := hh
  refine DCall.of_awp tok mixed fn13 (Nat.le_of_ble_eq_true rfl) ?_
  (conv => whnf); repeat' ((with_reducible refine Box.mk ?_) <;> conv => whnf)
  refine aloop (fun i : Nat => i ≤ l.length) (fun i => ⟨envL [(1, .sl (bll l)), (2, .ptr 0 0), (6, .int .i64 ((16 + (l.take i).flatten.length : Nat) : Int)), (12, .sl (bll l)), (13, .int .i64 ((bll l).length : Int)), (14, .int .i64 (i : Int))], [hBox h]⟩) (fun i => l.length - i) 0 (Nat.zero_le _) (weak_ren_to [(0, true)] rfl rfl rfl ⟨rfl, rfl, rfl, rfl, rfl, rfl, trivial⟩) ?_
  rintro i hi
  by_cases hlt : i < l.length
  · have hx := List.getElem?_eq_getElem hlt
    have hft := flat_take hx
    generalize l[i] = b at *
    have hbb := bcl_len b
    have hfl : (l.take (i + 1)).flatten.length = (l.take i).flatten.length + b.length := by rw [hft, List.length_append]
    have hle := flat_le l (i + 1)
    (conv => whnf); (repeat' ((with_reducible first | refine Box.mk ?_ | refine And.intro (fun _ => ?_) (fun _ => ?_) | fail) <;> conv => whnf))
    rotate_left
    · exfalso; rename_i h; have h : ¬ (i : Int) < ((bll l).length : Int) := h; omega
    refine ⟨by omega, [.sl (bcl b)], bll_get hx, rfl, ?_⟩
    (conv => whnf); (repeat' ((with_reducible first | refine Box.mk ?_ | refine And.intro (fun _ => ?_) (fun _ => ?_) | fail) <;> conv => whnf))
    · exfalso
      rename_i h2
      rw [wrap_i64 (by omega) (by omega)] at h2
      omega
    · refine ⟨i + 1, hlt, by omega, weak_ren_to [(0, true)] rfl rfl rfl ⟨rfl, rfl, ?_, rfl, rfl, wrap_nat (m := 1) (by omega), trivial⟩⟩
      show AV.int .i64 (IntKind.i64.wrap _) = _
      rw [wrap_i64 (by omega) (by omega)]
      exact congrArg (AV.int .i64) (by omega)
  · have : i = l.length := by omega
    subst this
    rw [List.take_length]
    have a0 := wNumN 10 2
    rw [show szN 2 = 2 from rfl] at a0
    have l0 := numB_len 10 2
    generalize hx0 : numB 10 2 = x0 at *
    have a1 := wNumR x0 (by omega) (16 + l.flatten.length) 2
    rw [show szN 2 = 2 from rfl] at a1
    have l1 := numB_len (16 + l.flatten.length) 2
    have m1 : (x0 ++ numB (16 + l.flatten.length) 2).length = 4 := by rw [List.length_append]; omega
    generalize hx1 : x0 ++ numB (16 + l.flatten.length) 2 = x1 at *
    have a2 := wNumR x1 (by omega) h.time 4
    rw [show szN 4 = 4 from rfl] at a2
    have l2 := numB_len h.time 4
    have m2 : (x1 ++ numB h.time 4).length = 8 := by rw [List.length_append]; omega
    generalize hx2 : x1 ++ numB h.time 4 = x2 at *
    have a3 := wNumR x2 (by omega) h.seq 4
    rw [show szN 4 = 4 from rfl] at a3
    have l3 := numB_len h.seq 4
    have m3 : (x2 ++ numB h.seq 4).length = 12 := by rw [List.length_append]; omega
    generalize hx3 : x2 ++ numB h.seq 4 = x3 at *
    have a4 := wNumR x3 (by omega) h.dom 4
    rw [show szN 4 = 4 from rfl] at a4
    have l4 := numB_len h.dom 4
    have m4 : (x3 ++ numB h.dom 4).length = 16 := by rw [List.length_append]; omega
    generalize hx4 : x3 ++ numB h.dom 4 = x4 at *
    have w1 : IntKind.u64.wrap ((16 + l.flatten.length : Nat) : Int) = ((16 + l.flatten.length : Nat) : Int) := wrap_u64 (by omega) (by omega)
    have w2 : IntKind.u64.wrap (h.time : Int) = (h.time : Int) := wrap_u64 (by omega) (by omega)
    have w3 : IntKind.u64.wrap (h.seq : Int) = (h.seq : Int) := wrap_u64 (by omega) (by omega)
    have w4 : IntKind.u64.wrap (h.dom : Int) = (h.dom : Int) := wrap_u64 (by omega) (by omega)
    have hfin : msgB h l.flatten = x4 ++ l.flatten := by
      unfold msgB
      rw [← hx4, ← hx3, ← hx2, ← hx1, ← hx0]
      simp only [List.append_assoc]
    rw [hfin]
    (conv => whnf); (repeat' ((with_reducible first | refine Box.mk ?_ | refine And.intro (fun _ => ?_) (fun _ => ?_) | fail) <;> conv => whnf))
    · exfalso; rename_i h; have h : ((l.length : Nat) : Int) < ((bll l).length : Int) := h; omega
    refine ⟨[(2000, []), (2003, []), (2007, []), (2011, []), (2015, []), (3002, [0]), (3005, [0, 3]), (3006, [0, 3]), (3009, [0, 3, 7]), (3010, [0, 3, 7]), (3013, [0, 3, 7, 11]), (3014, [0, 3, 7, 11])], by kernel_rfl, ?_⟩
    (conv => whnf); (repeat' ((with_reducible first | refine Box.mk ?_ | refine And.intro (fun _ => ?_) (fun _ => ?_) | refine (forceH_eq _ _).mpr ?_ | fail) <;> conv => whnf))
    refine aDw [1] a0 rfl rfl rfl ?_
    (conv => whnf); repeat' ((with_reducible refine Box.mk ?_) <;> conv => whnf)
    (refine And.intro ?_ ?_); (focus ((conv => whnf); (repeat' first | exact trivial | ((refine And.intro ?_ ?_); (focus ((conv => whnf); (first | exact ⟨rfl, rfl⟩ | exact ⟨by decide, by decide, rfl, rfl⟩ | exact ⟨by omega, by omega, rfl, rfl⟩ | exact ⟨by (simp only [List.length_drop, List.length_take]; omega), rfl, rfl⟩ | exact ⟨_, rfl, rfl, rfl⟩ | exact ⟨by omega, _, by assumption, rfl, rfl, rfl⟩ | ((refine ACall.of_pure (by assumption) (by rfl) ?_); (refine And.intro ?_ ?_ <;> rfl))))); (conv => whnf)))))
    (conv => whnf); repeat' ((with_reducible refine Box.mk ?_) <;> conv => whnf)
    rw [w1]
    refine aDw [1, 2] a1 rfl rfl rfl ?_
    (conv => whnf); repeat' ((with_reducible refine Box.mk ?_) <;> conv => whnf)
    (refine And.intro ?_ ?_); (focus ((conv => whnf); (repeat' first | exact trivial | ((refine And.intro ?_ ?_); (focus ((conv => whnf); (first | exact ⟨rfl, rfl⟩ | exact ⟨by decide, by decide, rfl, rfl⟩ | exact ⟨by omega, by omega, rfl, rfl⟩ | exact ⟨by (simp only [List.length_drop, List.length_take]; omega), rfl, rfl⟩ | exact ⟨_, rfl, rfl, rfl⟩ | exact ⟨by omega, _, by assumption, rfl, rfl, rfl⟩ | ((refine ACall.of_pure (by assumption) (by rfl) ?_); (refine And.intro ?_ ?_ <;> rfl))))); (conv => whnf)))))
    (conv => whnf); repeat' ((with_reducible refine Box.mk ?_) <;> conv => whnf)
    (refine And.intro ?_ ?_); (focus ((conv => whnf); (repeat' first | exact trivial | ((refine And.intro ?_ ?_); (focus ((conv => whnf); (first | exact ⟨rfl, rfl⟩ | exact ⟨by decide, by decide, rfl, rfl⟩ | exact ⟨by omega, by omega, rfl, rfl⟩ | exact ⟨by (simp only [List.length_drop, List.length_take]; omega), rfl, rfl⟩ | exact ⟨_, rfl, rfl, rfl⟩ | exact ⟨by omega, _, by assumption, rfl, rfl, rfl⟩ | ((refine ACall.of_pure (by assumption) (by rfl) ?_); (refine And.intro ?_ ?_ <;> rfl))))); (conv => whnf)))))
    (conv => whnf); repeat' ((with_reducible refine Box.mk ?_) <;> conv => whnf)
    rw [w2]
    refine aDw [1, 3] a2 rfl rfl rfl ?_
    (conv => whnf); repeat' ((with_reducible refine Box.mk ?_) <;> conv => whnf)
    (refine And.intro ?_ ?_); (focus ((conv => whnf); (repeat' first | exact trivial | ((refine And.intro ?_ ?_); (focus ((conv => whnf); (first | exact ⟨rfl, rfl⟩ | exact ⟨by decide, by decide, rfl, rfl⟩ | exact ⟨by omega, by omega, rfl, rfl⟩ | exact ⟨by (simp only [List.length_drop, List.length_take]; omega), rfl, rfl⟩ | exact ⟨_, rfl, rfl, rfl⟩ | exact ⟨by omega, _, by assumption, rfl, rfl, rfl⟩ | ((refine ACall.of_pure (by assumption) (by rfl) ?_); (refine And.intro ?_ ?_ <;> rfl))))); (conv => whnf)))))
    (conv => whnf); repeat' ((with_reducible refine Box.mk ?_) <;> conv => whnf)
    (refine And.intro ?_ ?_); (focus ((conv => whnf); (repeat' first | exact trivial | ((refine And.intro ?_ ?_); (focus ((conv => whnf); (first | exact ⟨rfl, rfl⟩ | exact ⟨by decide, by decide, rfl, rfl⟩ | exact ⟨by omega, by omega, rfl, rfl⟩ | exact ⟨by (simp only [List.length_drop, List.length_take]; omega), rfl, rfl⟩ | exact ⟨_, rfl, rfl, rfl⟩ | exact ⟨by omega, _, by assumption, rfl, rfl, rfl⟩ | ((refine ACall.of_pure (by assumption) (by rfl) ?_); (refine And.intro ?_ ?_ <;> rfl))))); (conv => whnf)))))
    (conv => whnf); repeat' ((with_reducible refine Box.mk ?_) <;> conv => whnf)
    rw [w3]
    refine aDw [1, 4] a3 rfl rfl rfl ?_
    (conv => whnf); repeat' ((with_reducible refine Box.mk ?_) <;> conv => whnf)
    (refine And.intro ?_ ?_); (focus ((conv => whnf); (repeat' first | exact trivial | ((refine And.intro ?_ ?_); (focus ((conv => whnf); (first | exact ⟨rfl, rfl⟩ | exact ⟨by decide, by decide, rfl, rfl⟩ | exact ⟨by omega, by omega, rfl, rfl⟩ | exact ⟨by (simp only [List.length_drop, List.length_take]; omega), rfl, rfl⟩ | exact ⟨_, rfl, rfl, rfl⟩ | exact ⟨by omega, _, by assumption, rfl, rfl, rfl⟩ | ((refine ACall.of_pure (by assumption) (by rfl) ?_); (refine And.intro ?_ ?_ <;> rfl))))); (conv => whnf)))))
    (conv => whnf); repeat' ((with_reducible refine Box.mk ?_) <;> conv => whnf)
    (refine And.intro ?_ ?_); (focus ((conv => whnf); (repeat' first | exact trivial | ((refine And.intro ?_ ?_); (focus ((conv => whnf); (first | exact ⟨rfl, rfl⟩ | exact ⟨by decide, by decide, rfl, rfl⟩ | exact ⟨by omega, by omega, rfl, rfl⟩ | exact ⟨by (simp only [List.length_drop, List.length_take]; omega), rfl, rfl⟩ | exact ⟨_, rfl, rfl, rfl⟩ | exact ⟨by omega, _, by assumption, rfl, rfl, rfl⟩ | ((refine ACall.of_pure (by assumption) (by rfl) ?_); (refine And.intro ?_ ?_ <;> rfl))))); (conv => whnf)))))
    (conv => whnf); repeat' ((with_reducible refine Box.mk ?_) <;> conv => whnf)
    rw [w4]
    refine aDw [1, 5] a4 rfl rfl rfl ?_
    (conv => whnf); repeat' ((with_reducible refine Box.mk ?_) <;> conv => whnf)
    refine aloop (fun i : Nat => i ≤ l.length) (fun i => ⟨envL [(9, .ptr 0 0), (44, .sl (bll l)), (45, .int .i64 ((bll l).length : Int)), (46, .int .i64 (i : Int))], wR (x4 ++ (l.take i).flatten)⟩) (fun i => l.length - i) 0 (Nat.zero_le _) (weak_ren_to [(1, true), (6, true)] rfl rfl (by show _ = wR (x4 ++ []); rw [List.append_nil]; rfl) ⟨rfl, rfl, rfl, rfl, trivial⟩) ?_
    rintro i hi
    have hle := flat_le l i
    have hxl : (x4 ++ (l.take i).flatten).length ≤ 70000 := by rw [List.length_append]; omega
    by_cases hlt : i < l.length
    · have hx := List.getElem?_eq_getElem hlt
      have hft := flat_take hx
      generalize l[i] = b at *
      have hle2 := flat_le l (i + 1)
      have hfl : (l.take (i + 1)).flatten.length = (l.take i).flatten.length + b.length := by rw [hft, List.length_append]
      have a5 := wRawR (x4 ++ (l.take i).flatten) (by omega) b (by omega)
      rw [List.append_assoc, ← hft] at a5
      (conv => whnf); (repeat' ((with_reducible first | refine Box.mk ?_ | refine And.intro (fun _ => ?_) (fun _ => ?_) | fail) <;> conv => whnf))
      rotate_left
      · exfalso; rename_i h; have h : ¬ (i : Int) < ((bll l).length : Int) := h; omega
      refine ⟨by omega, [.sl (bcl b)], bll_get hx, rfl, ?_⟩
      (conv => whnf); repeat' ((with_reducible refine Box.mk ?_) <;> conv => whnf)
      refine aW [0, 1] a5 rfl rfl rfl ?_
      (conv => whnf); repeat' ((with_reducible refine Box.mk ?_) <;> conv => whnf)
      exact ⟨i + 1, hlt, by omega, weak_ren_to [(0, true), (2, true)] rfl rfl rfl ⟨rfl, rfl, rfl, wrap_nat (m := 1) (by omega), trivial⟩⟩
    · have : i = l.length := by omega
      subst this
      rw [List.take_length] at *
      have a6 := wBytesR (x4 ++ l.flatten) (by omega)
      (conv => whnf); (repeat' ((with_reducible first | refine Box.mk ?_ | refine And.intro (fun _ => ?_) (fun _ => ?_) | fail) <;> conv => whnf))
      · exfalso; rename_i h; have h : ((l.length : Nat) : Int) < ((bll l).length : Int) := h; omega
      refine aW [0, 1] a6 rfl rfl rfl ?_
      (conv => whnf); repeat' ((with_reducible refine Box.mk ?_) <;> conv => whnf)
      exact weak_ren_to [] rfl rfl rfl ⟨rfl, trivial⟩
end Go.Proofs.YtnajpmepcffnaaaGreatDoor
end

section
/- ipfix: Templates of one, Data of one, Withdraw of one. -/
namespace Go.Proofs.YtnajpmepcffnaaaGreatDoor
open Go.Ve

def specsB (fs : List Sc) : Bs := (fs.map specB).flatten
theorem specsB_len : ∀ (fs : List Sc), (specsB fs).length ≤ 8 * fs.length
  | [] => Nat.le_refl _
  | s :: r => by
    have h1 := specsB_len r
    have h2 := specB_len s
    show (specB s ++ specsB r).length ≤ _
    rw [List.length_append, List.length_cons]; omega
theorem specsB_take {fs : List Sc} {i : Nat} {s : Sc} (h : fs[i]? = some s) : specsB (fs.take (i + 1)) = specsB (fs.take i) ++ specB s := by
  unfold specsB
  rw [List.take_add_one, h, List.map_append, List.flatten_append]
  show _ ++ (specB s ++ []) = _
  rw [List.append_nil]
def tmplB (i : Nat) (fs : List Sc) : Bs := numB i 2 ++ numB fs.length 2 ++ specsB fs
theorem tmplB_len (i : Nat) (fs : List Sc) : (tmplB i fs).length ≤ 4 + 8 * fs.length := by
  have := specsB_len fs
  unfold tmplB
  rw [List.length_append, List.length_append, numB_len, numB_len]; omega
theorem templates_nil : DCall P 27 [.nils] [] (.tup [.nils, .int .i64 1]) [] := by
  refine DCall.of_awp tok mixed fn27 (Nat.le_of_ble_eq_true rfl) ?_
  (conv => whnf); (repeat' ((with_reducible first | refine Box.mk ?_ | refine And.intro (fun _ => ?_) (fun _ => ?_) | fail) <;> conv => whnf))
  all_goals try contradiction
  exact weak_ren_to [] rfl rfl rfl ⟨rfl, trivial⟩
set_option maxHeartbeats 4000000 in
theorem templates_one (i : Nat) (fs : List Sc) (hr : rightT ⟨(i : Int), 0, fs⟩ = true) (hi : i < 65536) (he : ∀ s ∈ fs, EntOk s) : DCall P 27 [.sl [tcs ⟨(i : Int), 0, fs⟩]] [] (.tup [.sl (bcl (frameB 2 (tmplB i fs))), .int .i64 0]) [] := by
  obtain ⟨r1, r2, r3⟩ := right_all hr
  have r1 : 1 ≤ fs.length := r1
  have r2 : fs.length ≤ 64 := r2
  have q1 := cRight_ok ⟨(i : Int), 0, fs⟩ (by omega)
  rw [hr] at q1
  have hfl := scl_len fs
  have hsl := fun k => specsB_len (fs.take k)
  have htl := tmplB_len i fs
  have wid : IntKind.u64.wrap (i : Int) = i := wrap_u64 (by omega) (by omega)
  have wn : IntKind.u64.wrap (fs.length : Int) = fs.length := wrap_u64 (by omega) (by omega)
  have a1 := wNumN i 2
  rw [show szN 2 = 2 from rfl] at a1
  have l1 := numB_len i 2
  have a2 := wNumR (numB i 2) (by omega) fs.length 2
  rw [show szN 2 = 2 from rfl] at a2
  have l2 : (numB i 2 ++ numB fs.length 2).length = 4 := by rw [List.length_append, numB_len, numB_len]
  have a9 := wBytesR (tmplB i fs) (by omega)
  have af := framed_ok 2 (by decide) (tmplB i fs) (by omega)
  have htb : tmplB i fs = numB i 2 ++ numB fs.length 2 ++ specsB fs := rfl
  generalize tmplB i fs = tb at *
  generalize hpre : numB i 2 ++ numB fs.length 2 = pre at *
  generalize numB i 2 = x1 at *
  refine DCall.of_awp tok mixed fn27 (Nat.le_of_ble_eq_true rfl) ?_
  (conv => whnf); (repeat' ((with_reducible first | refine Box.mk ?_ | refine And.intro (fun _ => ?_) (fun _ => ?_) | fail) <;> conv => whnf))
  · rename_i h; exact absurd (show (1 : Int) = 0 from h) (by decide)
  refine ⟨[], by kernel_rfl, ?_⟩
  (conv => whnf); repeat' ((with_reducible refine Box.mk ?_) <;> conv => whnf)
  refine ⟨by decide, tcs ⟨(i : Int), 0, fs⟩, rfl, rfl, ?_⟩
  (conv => whnf); (repeat' ((with_reducible first | refine Box.mk ?_ | refine And.intro (fun _ => ?_) (fun _ => ?_) | fail) <;> conv => whnf))
  · rename_i h; exact absurd (show (0 : Int) < 0 from h) (by decide)
  refine aloop (fun k : Nat => k ≤ 1) (fun k => ⟨envL [(0, .sl [tcs ⟨(i : Int), 0, fs⟩]), (4, .ptr 0 0), (5, .bool true), (6, .bool false), (22, .sl [tcs ⟨(i : Int), 0, fs⟩]), (23, .int .i64 1), (24, .int .i64 (k : Int))], wN⟩) (fun k => 1 - k) 0 (Nat.zero_le _) (weak_ren_to [(0, true)] rfl rfl rfl ⟨rfl, rfl, rfl, rfl, rfl, rfl, rfl, trivial⟩) ?_
  intro k hk
  match k, hk with
  | 0, _ =>
    (conv => whnf); (repeat' ((with_reducible first | refine Box.mk ?_ | refine And.intro (fun _ => ?_) (fun _ => ?_) | fail) <;> conv => whnf))
    rotate_left
    · rename_i h; exact absurd (show ¬ (0 : Int) < 1 from h) (by decide)
    refine ⟨by decide, tcs ⟨(i : Int), 0, fs⟩, rfl, rfl, ?_⟩
    (conv => whnf); (repeat' ((first | (with_reducible first | refine Box.mk ?_ | refine And.intro (fun _ => ?_) (fun _ => ?_) | fail) | ((with_reducible show ACall _ _ _ _ _); refine ACall.of_pure (by assumption) (by rfl) ?_) | fail) <;> conv => whnf))
    all_goals try (exfalso; rename_i h1 h2; first | exact absurd (show (0 : Int) < 0 from h1) (by decide) | exact h2 rfl | exact absurd h2 (by decide))
    exact ⟨1, Nat.le_refl _, by omega, weak_ren_to [(0, true)] rfl rfl rfl ⟨rfl, rfl, rfl, rfl, rfl, rfl, wrap_nat (n := 0) (m := 1) (by omega), trivial⟩⟩
  | 1, _ =>
    (conv => whnf); (repeat' ((with_reducible first | refine Box.mk ?_ | refine And.intro (fun _ => ?_) (fun _ => ?_) | fail) <;> conv => whnf))
    · rename_i h; exact absurd (show (1 : Int) < 1 from h) (by decide)
    refine aloop (fun k : Nat => k ≤ 1) (fun k => ⟨envL [(4, .ptr 0 0), (6, .bool false), (9, .int .i64 2), (41, .sl [tcs ⟨(i : Int), 0, fs⟩]), (42, .int .i64 1), (43, .int .i64 (k : Int))], bif Nat.beq k 0 then wN else wR tb⟩) (fun k => 1 - k) 0 (Nat.zero_le _) (weak_ren_to [(0, true)] rfl rfl rfl ⟨rfl, rfl, rfl, rfl, rfl, rfl, trivial⟩) ?_
    intro k hk
    match k, hk with
    | 0, _ =>
      (conv => whnf); (repeat' ((with_reducible first | refine Box.mk ?_ | refine And.intro (fun _ => ?_) (fun _ => ?_) | fail) <;> conv => whnf))
      rotate_left
      · rename_i h; exact absurd (show ¬ (0 : Int) < 1 from h) (by decide)
      refine ⟨by decide, tcs ⟨(i : Int), 0, fs⟩, rfl, rfl, ?_⟩
      (conv => whnf); repeat' ((with_reducible refine Box.mk ?_) <;> conv => whnf)
      refine ⟨[(2003, []), (2008, []), (3005, [3]), (3007, [3]), (3006, [3])], by kernel_rfl, ?_⟩
      (conv => whnf); repeat' ((with_reducible refine Box.mk ?_) <;> conv => whnf)
      rw [wid]
      refine aDw [0] a1 rfl rfl rfl ?_
      (conv => whnf); repeat' ((with_reducible refine Box.mk ?_) <;> conv => whnf)
      (refine And.intro ?_ ?_); (focus ((conv => whnf); (repeat' first | exact trivial | ((refine And.intro ?_ ?_); (focus ((conv => whnf); (first | exact ⟨rfl, rfl⟩ | exact ⟨by decide, by decide, rfl, rfl⟩ | exact ⟨by omega, by omega, rfl, rfl⟩ | exact ⟨by (simp only [List.length_drop, List.length_take]; omega), rfl, rfl⟩ | exact ⟨_, rfl, rfl, rfl⟩ | exact ⟨by omega, _, by assumption, rfl, rfl, rfl⟩ | ((refine ACall.of_pure (by assumption) (by rfl) ?_); (refine And.intro ?_ ?_ <;> rfl))))); (conv => whnf)))))
      (conv => whnf); repeat' ((with_reducible refine Box.mk ?_) <;> conv => whnf)
      (refine And.intro ?_ ?_); (focus ((conv => whnf); (repeat' first | exact trivial | ((refine And.intro ?_ ?_); (focus ((conv => whnf); (first | exact ⟨rfl, rfl⟩ | exact ⟨by decide, by decide, rfl, rfl⟩ | exact ⟨by omega, by omega, rfl, rfl⟩ | exact ⟨by (simp only [List.length_drop, List.length_take]; omega), rfl, rfl⟩ | exact ⟨_, rfl, rfl, rfl⟩ | exact ⟨by omega, _, by assumption, rfl, rfl, rfl⟩ | ((refine ACall.of_pure (by assumption) (by rfl) ?_); (refine And.intro ?_ ?_ <;> rfl))))); (conv => whnf)))))
      (conv => whnf); repeat' ((with_reducible refine Box.mk ?_) <;> conv => whnf)
      (refine And.intro ?_ ?_); (focus ((conv => whnf); (repeat' first | exact trivial | ((refine And.intro ?_ ?_); (focus ((conv => whnf); (first | exact ⟨rfl, rfl⟩ | exact ⟨by decide, by decide, rfl, rfl⟩ | exact ⟨by omega, by omega, rfl, rfl⟩ | exact ⟨by (simp only [List.length_drop, List.length_take]; omega), rfl, rfl⟩ | exact ⟨_, rfl, rfl, rfl⟩ | exact ⟨by omega, _, by assumption, rfl, rfl, rfl⟩ | ((refine ACall.of_pure (by assumption) (by rfl) ?_); (refine And.intro ?_ ?_ <;> rfl))))); (conv => whnf)))))
      (conv => whnf); repeat' ((with_reducible refine Box.mk ?_) <;> conv => whnf)
      rw [hfl, wn]
      refine aDw [0, 2] a2 rfl rfl rfl ?_
      (conv => whnf); repeat' ((with_reducible refine Box.mk ?_) <;> conv => whnf)
      refine aloop (fun j : Nat => j ≤ fs.length) (fun j => ⟨envL [(4, .ptr 0 0), (6, .bool false), (9, .int .i64 2), (41, .sl [tcs ⟨(i : Int), 0, fs⟩]), (42, .int .i64 1), (43, .int .i64 0), (62, .sl (scl fs)), (63, .int .i64 ((scl fs).length : Int)), (64, .int .i64 (j : Int))], wR (pre ++ specsB (fs.take j))⟩) (fun j => fs.length - j) 0 (Nat.zero_le _)
        (weak_ren_to [(0, true), (3, true)] rfl rfl (by show _ = wR (pre ++ []); rw [List.append_nil]; rfl) ⟨rfl, rfl, rfl, rfl, rfl, rfl, rfl, rfl, rfl, trivial⟩) ?_
      intro j hj
      by_cases hlt : j < fs.length
      · have hx := List.getElem?_eq_getElem hlt
        have hst := specsB_take hx
        have hes := he _ (List.mem_of_getElem? hx)
        generalize fs[j] = s at *
        have hsj := hsl j
        have a5 := fWriteR (pre ++ specsB (fs.take j)) (by rw [List.length_append]; rw [List.length_take] at hsj; omega) s hes
        rw [List.append_assoc, ← hst] at a5
        (conv => whnf); (repeat' ((with_reducible first | refine Box.mk ?_ | refine And.intro (fun _ => ?_) (fun _ => ?_) | fail) <;> conv => whnf))
        rotate_left
        · exfalso; rename_i h; have h : ¬ (j : Int) < ((scl fs).length : Int) := h; omega
        refine ⟨by omega, scc s, scl_get hx, rfl, ?_⟩
        (conv => whnf); repeat' ((with_reducible refine Box.mk ?_) <;> conv => whnf)
        refine aW [0, 1] a5 rfl rfl rfl ?_
        (conv => whnf); repeat' ((with_reducible refine Box.mk ?_) <;> conv => whnf)
        exact ⟨j + 1, hlt, by omega, weak_ren_to [(0, true), (3, true)] rfl rfl rfl ⟨rfl, rfl, rfl, rfl, rfl, rfl, rfl, rfl, wrap_nat (m := 1) (by omega), trivial⟩⟩
      · have : j = fs.length := by omega
        subst this
        rw [List.take_length, ← htb]
        (conv => whnf); (repeat' ((with_reducible first | refine Box.mk ?_ | refine And.intro (fun _ => ?_) (fun _ => ?_) | fail) <;> conv => whnf))
        · exfalso; rename_i h; have h : ((fs.length : Nat) : Int) < ((scl fs).length : Int) := h; omega
        exact ⟨1, Nat.le_refl _, by omega, weak_ren_to [(0, true), (1, true)] rfl rfl rfl ⟨rfl, rfl, rfl, rfl, rfl, wrap_nat (n := 0) (m := 1) (by omega), trivial⟩⟩
    | 1, _ =>
      (conv => whnf); (repeat' ((with_reducible first | refine Box.mk ?_ | refine And.intro (fun _ => ?_) (fun _ => ?_) | fail) <;> conv => whnf))
      · rename_i h; exact absurd (show (1 : Int) < 1 from h) (by decide)
      refine aW [0, 1] a9 rfl rfl rfl ?_
      (conv => whnf); repeat' ((with_reducible refine Box.mk ?_) <;> conv => whnf)
      refine aW [] af rfl rfl rfl ?_
      (conv => whnf); repeat' ((with_reducible refine Box.mk ?_) <;> conv => whnf)
      exact weak_ren_to [] rfl rfl rfl ⟨rfl, trivial⟩
end Go.Proofs.YtnajpmepcffnaaaGreatDoor
end

section
/- ipfix: Data of one, Withdraw of one. -/
namespace Go.Proofs.YtnajpmepcffnaaaGreatDoor
open Go.Ve

def putsB (fs : List Sc) (r : Rc) : Bs := (fs.map fun s => putB s (ofR r s)).flatten
theorem putsB_take {fs : List Sc} {r : Rc} {i : Nat} {s : Sc} (h : fs[i]? = some s) : putsB (fs.take (i + 1)) r = putsB (fs.take i) r ++ putB s (ofR r s) := by
  unfold putsB
  rw [List.take_add_one, h, List.map_append, List.flatten_append]
  show _ ++ (putB s (ofR r s) ++ []) = _
  rw [List.append_nil]
theorem putsB_len (r : Rc) : ∀ (fs : List Sc), (putsB fs r).length ≤ 65540 * fs.length
  | [] => Nat.le_refl _
  | s :: l => by
    have h1 := putsB_len r l
    have h2 := putB_len s (ofR r s)
    show (putB s (ofR r s) ++ putsB l r).length ≤ _
    rw [List.length_append, List.length_cons]; omega
set_option maxHeartbeats 4000000 in
theorem data_one (i : Nat) (fs : List Sc) (r : Rc) (hr : rightT ⟨(i : Int), 0, fs⟩ = true) (hi : i < 65536) (h0 : r.p0.path.length < 4294967281) (h1 : r.p1.path.length < 4294967281) (hv : ∀ s ∈ fs, (ofR r s).length ≤ 1000000000) (htot : (putsB fs r).length ≤ 65531) :
    DCall P 28 [tv ⟨(i : Int), 0, fs⟩, .sl [rcc r]] [] (.tup [.sl (bcl (frameB i (putsB fs r))), .int .i64 0]) [] := by
  obtain ⟨r1, r2, r3⟩ := right_all hr
  have r1 : 1 ≤ fs.length := r1
  have r2 : fs.length ≤ 64 := r2
  have q1 := cRight_ok ⟨(i : Int), 0, fs⟩ (by omega)
  rw [hr] at q1
  have hfl := scl_len fs
  have hsl := fun k => putsB_len r (fs.take k)
  have a9 := wBytesR (putsB fs r) (by omega)
  have af := framed_ok i hi (putsB fs r) htot
  refine DCall.of_awp tok mixed fn28 (Nat.le_of_ble_eq_true rfl) ?_
  (conv => whnf); (repeat' ((first | (with_reducible refine Box.mk ?_) | ((with_reducible show ACall _ _ _ _ _); refine ACall.of_pure (by assumption) (by rfl) ?_) | fail) <;> conv => whnf))
  all_goals try (exfalso; rename_i h2; first | exact h2 rfl | exact absurd h2 (by decide))
  refine aloop (fun k : Nat => k ≤ 1) (fun k => ⟨envL [(2, .ptr 0 0), (6, .ptr 1 0), (14, .sl [rcc r]), (15, .int .i64 1), (16, .int .i64 (k : Int))], Ob.box 58 (tcs ⟨(i : Int), 0, fs⟩) :: (bif Nat.beq k 0 then [.box 89 [.nils]] else [.box 89 [.own 2], .row 5 1 (bcl (putsB fs r))])⟩) (fun k => 1 - k) 0 (Nat.zero_le _) (weak_ren_to [(0, true), (1, true)] rfl rfl rfl ⟨rfl, rfl, rfl, rfl, rfl, trivial⟩) ?_
  intro k hk
  match k, hk with
  | 0, _ =>
    (conv => whnf); (repeat' ((with_reducible first | refine Box.mk ?_ | refine And.intro (fun _ => ?_) (fun _ => ?_) | fail) <;> conv => whnf))
    rotate_left
    · rename_i h; exact absurd (show ¬ (0 : Int) < 1 from h) (by decide)
    refine ⟨by decide, rcc r, rfl, rfl, ?_⟩
    (conv => whnf); repeat' ((with_reducible refine Box.mk ?_) <;> conv => whnf)
    refine aloop (fun j : Nat => j ≤ fs.length) (fun j => ⟨envL [(2, .ptr 0 0), (6, .ptr 1 0), (8, .ptr 2 0), (14, .sl [rcc r]), (15, .int .i64 1), (16, .int .i64 0), (21, .sl (scl fs)), (22, .int .i64 ((scl fs).length : Int)), (23, .int .i64 (j : Int))], [Ob.box 58 (tcs ⟨(i : Int), 0, fs⟩), .box 89 [.own 3], .box 55 (rcc r), .row 5 1 (bcl (putsB (fs.take j) r))]⟩) (fun j => fs.length - j) 0 (Nat.zero_le _)
      (by exact weak_nilrow (H' := [Ob.box 58 (tcs ⟨(i : Int), 0, fs⟩), .box 89 [.own 3], .box 55 (rcc r)]) 5 1 (by decide) ⟨.inl rfl, .inl rfl, .inl rfl, .inl rfl, .inl rfl, .inl rfl, .inl rfl, .inl rfl, .inl rfl, trivial⟩ ⟨.inl rfl, .inr ⟨rfl, .inr ⟨rfl, rfl⟩, trivial⟩, .inl rfl, trivial⟩) ?_
    intro j hj
    by_cases hlt : j < fs.length
    · have hx := List.getElem?_eq_getElem hlt
      have hst := putsB_take (r := r) hx
      have hvs := hv _ (List.mem_of_getElem? hx)
      generalize fs[j] = s at *
      have hsj := hsl j
      have q4 := fOf_ok r s h0 h1
      have a5 := fPutR (putsB (fs.take j) r) (by rw [List.length_take] at hsj; omega) s (ofR r s) hvs
      rw [← hst] at a5
      generalize ofR r s = v at *
      (conv => whnf); (repeat' ((with_reducible first | refine Box.mk ?_ | refine And.intro (fun _ => ?_) (fun _ => ?_) | fail) <;> conv => whnf))
      rotate_left
      · exfalso; rename_i h; have h : ¬ (j : Int) < ((scl fs).length : Int) := h; omega
      refine ⟨by omega, scc s, scl_get hx, rfl, ?_⟩
      (conv => whnf); repeat' ((with_reducible refine Box.mk ?_) <;> conv => whnf)
      refine ⟨[(2004, [])], by kernel_rfl, ?_⟩
      (conv => whnf); repeat' ((with_reducible refine Box.mk ?_) <;> conv => whnf)
      refine aDr [] q4 rfl rfl rfl rfl ?_
      (conv => whnf); repeat' ((with_reducible refine Box.mk ?_) <;> conv => whnf)
      refine aDw [1, 3] a5 rfl rfl rfl ?_
      (conv => whnf); repeat' ((with_reducible refine Box.mk ?_) <;> conv => whnf)
      exact ⟨j + 1, hlt, by omega, weak_ren_to [(0, true), (1, true), (2, true), (5, true)] rfl rfl rfl ⟨rfl, rfl, rfl, rfl, rfl, rfl, rfl, rfl, wrap_nat (m := 1) (by omega), trivial⟩⟩
    · have : j = fs.length := by omega
      subst this
      rw [List.take_length]
      (conv => whnf); (repeat' ((with_reducible first | refine Box.mk ?_ | refine And.intro (fun _ => ?_) (fun _ => ?_) | fail) <;> conv => whnf))
      · exfalso; rename_i h; have h : ((fs.length : Nat) : Int) < ((scl fs).length : Int) := h; omega
      exact ⟨1, Nat.le_refl _, by omega, weak_ren_to [(0, true), (1, true), (3, true)] rfl rfl rfl ⟨rfl, rfl, rfl, rfl, wrap_nat (n := 0) (m := 1) (by omega), trivial⟩⟩
  | 1, _ =>
    (conv => whnf); (repeat' ((with_reducible first | refine Box.mk ?_ | refine And.intro (fun _ => ?_) (fun _ => ?_) | fail) <;> conv => whnf))
    · rename_i h; exact absurd (show (1 : Int) < 1 from h) (by decide)
    refine ⟨[], by kernel_rfl, ?_⟩
    (conv => whnf); repeat' ((with_reducible refine Box.mk ?_) <;> conv => whnf)
    refine aDr [1, 2] a9 rfl rfl rfl rfl ?_
    (conv => whnf); repeat' ((with_reducible refine Box.mk ?_) <;> conv => whnf)
    refine aDr [] af rfl rfl rfl rfl ?_
    (conv => whnf); repeat' ((with_reducible refine Box.mk ?_) <;> conv => whnf)
    exact weak_ren_to [] rfl rfl rfl ⟨rfl, trivial⟩
set_option maxHeartbeats 4000000 in
theorem withdraw_one : DCall P 29 [.bool false, .sl [[.int .i64 2]]] [] (.tup [.sl (bcl (frameB 2 (numB 2 2 ++ numB 0 2))), .int .i64 0]) [] := by
  have a1 := wNumN 2 2
  rw [show szN 2 = 2 from rfl] at a1
  have l1 := numB_len 2 2
  have a2 := wNumR (numB 2 2) (by omega) 0 2
  rw [show szN 2 = 2 from rfl] at a2
  have l2 : (numB 2 2 ++ numB 0 2).length = 4 := by rw [List.length_append, numB_len, numB_len]
  have a9 := wBytesR (numB 2 2 ++ numB 0 2) (by omega)
  have af := framed_ok 2 (by decide) (numB 2 2 ++ numB 0 2) (by omega)
  generalize numB 2 2 ++ numB 0 2 = tb at *
  generalize numB 2 2 = x at *
  refine DCall.of_awp tok mixed fn29 (Nat.le_of_ble_eq_true rfl) ?_
  (conv => whnf); repeat' ((with_reducible refine Box.mk ?_) <;> conv => whnf)
  refine aloop (fun k : Nat => k ≤ 1) (fun k => ⟨envL [(6, .ptr 0 0), (7, .int .i64 2), (11, .sl [[.int .i64 2]]), (12, .int .i64 1), (13, .int .i64 (k : Int))], bif Nat.beq k 0 then wN else wR tb⟩) (fun k => 1 - k) 0 (Nat.zero_le _) (weak_ren_to [(0, true)] rfl rfl rfl ⟨rfl, rfl, rfl, rfl, rfl, trivial⟩) ?_
  intro k hk
  match k, hk with
  | 0, _ =>
    (conv => whnf); (repeat' ((with_reducible first | refine Box.mk ?_ | refine And.intro (fun _ => ?_) (fun _ => ?_) | fail) <;> conv => whnf))
    rotate_left
    · rename_i h; exact absurd (show ¬ (0 : Int) < 1 from h) (by decide)
    refine ⟨by decide, [.int .i64 2], rfl, rfl, ?_⟩
    (conv => whnf); (repeat' ((with_reducible first | refine Box.mk ?_ | refine And.intro (fun _ => ?_) (fun _ => ?_) | fail) <;> conv => whnf))
    rotate_left
    all_goals try exact absurd rfl (by assumption)
    refine aW [0] a1 rfl rfl rfl ?_
    (conv => whnf); repeat' ((with_reducible refine Box.mk ?_) <;> conv => whnf)
    refine aW [0, 1] a2 rfl rfl rfl ?_
    (conv => whnf); repeat' ((with_reducible refine Box.mk ?_) <;> conv => whnf)
    exact ⟨1, Nat.le_refl _, by omega, weak_ren_to [(0, true), (2, true)] rfl rfl rfl ⟨rfl, rfl, rfl, rfl, wrap_nat (n := 0) (m := 1) (by omega), trivial⟩⟩
  | 1, _ =>
    (conv => whnf); (repeat' ((with_reducible first | refine Box.mk ?_ | refine And.intro (fun _ => ?_) (fun _ => ?_) | fail) <;> conv => whnf))
    · rename_i h; exact absurd (show (1 : Int) < 1 from h) (by decide)
    refine aW [0, 1] a9 rfl rfl rfl ?_
    (conv => whnf); repeat' ((with_reducible refine Box.mk ?_) <;> conv => whnf)
    refine aW [] af rfl rfl rfl ?_
    (conv => whnf); repeat' ((with_reducible refine Box.mk ?_) <;> conv => whnf)
    exact weak_ren_to [] rfl rfl rfl ⟨rfl, trivial⟩
end Go.Proofs.YtnajpmepcffnaaaGreatDoor
end

section
/- ref16: Same, SameAll, and the laws' Same and SameRecords, of what is the same. -/
namespace Go.Proofs.YtnajpmepcffnaaaGreatDoor
open Go.Ve

theorem hdl_get2 {G : List Hd} {i : Nat} {h : Hd} (hx : G[i]? = some h) : (hdl G)[(i : Int).toNat]? = some (hdc h) := by
  rw [Int.toNat_natCast, hdl_get, hx]; rfl
theorem same_refl (t : Tm) (hl : t.fields.length ≤ 1000000000) : PCall P 19 [tv t, tv t] (.bool true) := by
  have hfl := scl_len t.fields
  refine PCall.of_awp tok mixed fn19 (Nat.le_of_ble_eq_true rfl) ?_
  (conv => whnf); (repeat' ((with_reducible first | refine Box.mk ?_ | refine And.intro (fun _ => ?_) (fun _ => ?_) | fail) <;> conv => whnf))
  all_goals try (exact absurd rfl (by assumption))
  refine aloopH (fun i : Nat => i ≤ t.fields.length) (fun i => [(2, .ptr 0 0), (3, .ptr 1 0), (5, .int .i64 (i : Int))]) (fun _ H => H) (fun i => t.fields.length - i) 0 (Nat.zero_le _) (weak_to ⟨rfl, rfl, rfl, trivial⟩ rfl) ?_
  intro i hi
  by_cases hlt : i < t.fields.length
  · have hx := List.getElem?_eq_getElem hlt
    generalize t.fields[i] = s at *
    have hg := scl_get hx
    (conv => whnf); (repeat' ((with_reducible first | refine Box.mk ?_ | refine And.intro (fun _ => ?_) (fun _ => ?_) | fail) <;> conv => whnf))
    rotate_left
    · exfalso; rename_i h; have h : ¬ (i : Int) < ((scl t.fields).length : Int) := h; omega
    refine ⟨[], by kernel_rfl, ?_⟩
    (conv => whnf); repeat' ((with_reducible refine Box.mk ?_) <;> conv => whnf)
    refine ⟨by omega, scc s, hg, rfl, ?_⟩
    (conv => whnf); repeat' ((with_reducible refine Box.mk ?_) <;> conv => whnf)
    refine ⟨by omega, scc s, hg, rfl, ?_⟩
    (conv => whnf); (repeat' ((with_reducible first | refine Box.mk ?_ | refine And.intro (fun _ => ?_) (fun _ => ?_) | fail) <;> conv => whnf))
    rotate_left
    · rename_i h; exact absurd ⟨rfl, rfl, rfl⟩ h
    exact ⟨i + 1, hlt, by omega, weak_to ⟨rfl, rfl, wrap_nat (m := 1) (by omega), trivial⟩ rfl⟩
  · have : i = t.fields.length := by omega
    subst this
    (conv => whnf); (repeat' ((with_reducible first | refine Box.mk ?_ | refine And.intro (fun _ => ?_) (fun _ => ?_) | fail) <;> conv => whnf))
    · exfalso; rename_i h; have h : ((t.fields.length : Nat) : Int) < ((scl t.fields).length : Int) := h; omega
    rfl
theorem sameAll_refl (G : List Hd) (hG : ∀ h ∈ G, rightT h.t = true) (hl : G.length ≤ 1000000000) : PCall P 16 [.sl (hdl G), .sl (hdl G)] (.bool true) := by
  have hgl := hdl_len G
  refine PCall.of_awp tok mixed fn16 (Nat.le_of_ble_eq_true rfl) ?_
  (conv => whnf); (repeat' ((with_reducible first | refine Box.mk ?_ | refine And.intro (fun _ => ?_) (fun _ => ?_) | fail) <;> conv => whnf))
  all_goals try (exact absurd rfl (by assumption))
  refine aloopH (fun i : Nat => i ≤ G.length) (fun i => [(0, .sl (hdl G)), (1, .sl (hdl G)), (5, .int .i64 (i : Int))]) (fun _ H => H) (fun i => G.length - i) 0 (Nat.zero_le _) (weak_to ⟨rfl, rfl, rfl, trivial⟩ rfl) ?_
  intro i hi
  by_cases hlt : i < G.length
  · have hx := List.getElem?_eq_getElem hlt
    have hr := hG _ (List.mem_of_getElem? hx)
    generalize G[i] = h at *
    have hg := hdl_get2 hx
    have q1 := same_refl h.t (by have := rightT_len hr; omega)
    (conv => whnf); (repeat' ((with_reducible first | refine Box.mk ?_ | refine And.intro (fun _ => ?_) (fun _ => ?_) | fail) <;> conv => whnf))
    rotate_left
    · exfalso; rename_i h; have h : ¬ (i : Int) < ((hdl G).length : Int) := h; omega
    refine ⟨[], by kernel_rfl, ?_⟩
    (conv => whnf); repeat' ((with_reducible refine Box.mk ?_) <;> conv => whnf)
    refine ⟨by omega, hdc h, hg, rfl, ?_⟩
    (conv => whnf); repeat' ((with_reducible refine Box.mk ?_) <;> conv => whnf)
    refine ⟨by omega, hdc h, hg, rfl, ?_⟩
    (conv => whnf); (repeat' ((with_reducible first | refine Box.mk ?_ | refine And.intro (fun _ => ?_) (fun _ => ?_) | fail) <;> conv => whnf))
    all_goals try (exact absurd rfl (by assumption))
    refine ⟨by omega, hdc h, hg, rfl, ?_⟩
    (conv => whnf); repeat' ((with_reducible refine Box.mk ?_) <;> conv => whnf)
    refine ⟨by omega, hdc h, hg, rfl, ?_⟩
    (conv => whnf); (repeat' ((first | (with_reducible refine Box.mk ?_) | ((with_reducible show Exists _); refine ⟨_, ACall.of_pure (by assumption) (by rfl) ⟨rfl, rfl⟩, ?_⟩) | fail) <;> conv => whnf))
    exact ⟨i + 1, hlt, by omega, weak_to ⟨rfl, rfl, wrap_nat (m := 1) (by omega), trivial⟩ rfl⟩
  · have : i = G.length := by omega
    subst this
    (conv => whnf); (repeat' ((with_reducible first | refine Box.mk ?_ | refine And.intro (fun _ => ?_) (fun _ => ?_) | fail) <;> conv => whnf))
    · exfalso; rename_i h; have h : ((G.length : Nat) : Int) < ((hdl G).length : Int) := h; omega
    rfl
theorem sameRecs_refl (l : List Rc) (hl : l.length ≤ 2000000000) : PCall P 10 [.sl (rcl l), .sl (rcl l)] (.bool true) := by
  have hgl := rcl_len l
  refine PCall.of_awp tok mixed fn10 (Nat.le_of_ble_eq_true rfl) ?_
  (conv => whnf); (repeat' ((with_reducible first | refine Box.mk ?_ | refine And.intro (fun _ => ?_) (fun _ => ?_) | fail) <;> conv => whnf))
  all_goals try (exact absurd rfl (by assumption))
  refine aloopH (fun i : Nat => i ≤ l.length) (fun i => [(0, .sl (rcl l)), (1, .sl (rcl l)), (5, .int .i64 (i : Int))]) (fun _ H => H) (fun i => l.length - i) 0 (Nat.zero_le _) (weak_to ⟨rfl, rfl, rfl, trivial⟩ rfl) ?_
  intro i hi
  by_cases hlt : i < l.length
  · have hx := List.getElem?_eq_getElem hlt
    generalize l[i] = r at *
    have hg : (rcl l)[(i : Int).toNat]? = some (rcc r) := by rw [Int.toNat_natCast, rcl, List.getElem?_map, hx]; rfl
    (conv => whnf); (repeat' ((with_reducible first | refine Box.mk ?_ | refine And.intro (fun _ => ?_) (fun _ => ?_) | fail) <;> conv => whnf))
    rotate_left
    · exfalso; rename_i h; have h : ¬ (i : Int) < ((rcl l).length : Int) := h; omega
    refine ⟨[], by kernel_rfl, ?_⟩
    (conv => whnf); repeat' ((with_reducible refine Box.mk ?_) <;> conv => whnf)
    refine ⟨by omega, rcc r, hg, rfl, ?_⟩
    (conv => whnf); repeat' ((with_reducible refine Box.mk ?_) <;> conv => whnf)
    refine ⟨by omega, rcc r, hg, rfl, ?_⟩
    (conv => whnf); (repeat' ((with_reducible first | refine Box.mk ?_ | refine And.intro (fun _ => ?_) (fun _ => ?_) | fail) <;> conv => whnf))
    rotate_left
    · rename_i h; exact absurd (by simp) h
    exact ⟨i + 1, hlt, by omega, weak_to ⟨rfl, rfl, wrap_nat (m := 1) (by omega), trivial⟩ rfl⟩
  · have : i = l.length := by omega
    subst this
    (conv => whnf); (repeat' ((with_reducible first | refine Box.mk ?_ | refine And.intro (fun _ => ?_) (fun _ => ?_) | fail) <;> conv => whnf))
    · exfalso; rename_i h; have h : ((l.length : Nat) : Int) < ((rcl l).length : Int) := h; omega
    rfl
theorem tmplsSame_ok (c : Cs) (hc : CI c) : DCall P 11 [.ptr 0 0, .sl (hdl (listE c.es))] (cH c) (.bool true) (cH c) := by
  have q1 := list_ok c hc
  obtain ⟨ho, hr, hd, hl⟩ := hc.list
  have q2 := sameAll_refl (listE c.es) hr (by omega)
  have q3 := fun (h : Hd) (hx : h ∈ listE c.es) => find_ok c hc h.dom h.t.id
  have hf : ∀ h ∈ listE c.es, findE c.es (h.dom, h.t.id) = some h := fun h hx => by
    obtain ⟨e, he, rfl⟩ := ((listE_rel hc.nodup).2 h).1 hx
    exact findE_in hc.nodup he
  generalize listE c.es = G at *
  have hgl := hdl_len G
  obtain ⟨nl, es, clk⟩ := c
  clear ho hd
  cases nl
  · have q3 : ∀ h ∈ G, DCall P 18 [.ptr 0 0, .int .u32 (h.dom : Int), .int .i64 h.t.id] (CHp es clk) (.tup [tv h.t, .bool true]) (CHp es clk) := fun h hx => by
      have := q3 h hx
      rw [show findE es (h.dom, h.t.id) = some h from hf h hx] at this
      exact this
    have q1 : DCall P _ _ (CHp es clk) _ _ := q1
    show DCall P _ _ (CHp es clk) _ (CHp es clk)
    refine DCall.of_awp tok mixed fn11 (Nat.le_of_ble_eq_true rfl) ?_
    (conv => whnf); (repeat' ((with_reducible first | refine Box.mk ?_ | refine And.intro (fun _ => ?_) (fun _ => ?_) | fail) <;> conv => whnf))
    all_goals try contradiction
    refine aW [0, 1] q1 rfl rfl rfl ?_
    (conv => whnf); (repeat' ((first | (with_reducible refine Box.mk ?_) | ((with_reducible show ACall _ _ _ _ _); refine ACall.of_pure (by assumption) (by rfl) ?_) | fail) <;> conv => whnf))
    refine aloop (fun i : Nat => i ≤ G.length) (fun i => ⟨envL [(0, .ptr 0 0), (1, .sl (hdl G)), (5, .int .i64 (i : Int))], CHp es clk⟩) (fun i => G.length - i) 0 (Nat.zero_le _) (weak_ren_to [(0, true), (1, true)] rfl rfl rfl ⟨rfl, rfl, rfl, trivial⟩) ?_
    intro i hi
    by_cases hlt : i < G.length
    · have hx := List.getElem?_eq_getElem hlt
      have hr := hr _ (List.mem_of_getElem? hx)
      have q3 := q3 _ (List.mem_of_getElem? hx)
      generalize G[i] = h at *
      have hg := hdl_get2 hx
      have q4 := same_refl h.t (by have := rightT_len hr; omega)
      (conv => whnf); (repeat' ((with_reducible first | refine Box.mk ?_ | refine And.intro (fun _ => ?_) (fun _ => ?_) | fail) <;> conv => whnf))
      rotate_left
      · exfalso; rename_i h; have h : ¬ (i : Int) < ((hdl G).length : Int) := h; omega
      refine ⟨[(16, [3, 5, 8, 11, 12])], by kernel_rfl, ?_⟩
      (conv => whnf); repeat' ((with_reducible refine Box.mk ?_) <;> conv => whnf)
      refine ⟨by omega, hdc h, hg, rfl, ?_⟩
      (conv => whnf); repeat' ((with_reducible refine Box.mk ?_) <;> conv => whnf)
      refine ⟨by omega, hdc h, hg, rfl, ?_⟩
      (conv => whnf); repeat' ((with_reducible refine Box.mk ?_) <;> conv => whnf)
      refine aDr [0, 1] q3 rfl rfl rfl rfl ?_
      (conv => whnf); repeat' ((with_reducible refine Box.mk ?_) <;> conv => whnf)
      refine ⟨⟨⟨by omega, _, hg, rfl, rfl, rfl⟩, ⟨rfl, rfl⟩, ⟨by omega, _, hg, rfl, rfl, rfl⟩, ⟨rfl, rfl⟩, aW [0, 1] q3 rfl rfl rfl ⟨rfl, rfl⟩, trivial⟩, ?_⟩
      (conv => whnf); repeat' ((with_reducible refine Box.mk ?_) <;> conv => whnf)
      refine ⟨[], by kernel_rfl, ?_⟩
      (conv => whnf); repeat' ((with_reducible refine Box.mk ?_) <;> conv => whnf)
      refine ⟨by omega, hdc h, hg, rfl, ?_⟩
      (conv => whnf); (repeat' ((first | (with_reducible refine Box.mk ?_) | ((with_reducible show Exists _); refine ⟨_, ACall.of_pure (by assumption) (by rfl) ⟨rfl, rfl⟩, ?_⟩) | fail) <;> conv => whnf))
      exact ⟨i + 1, hlt, by omega, weak_ren_to [(0, true), (1, true)] rfl rfl rfl ⟨rfl, rfl, wrap_nat (m := 1) (by omega), trivial⟩⟩
    · have : i = G.length := by omega
      subst this
      (conv => whnf); (repeat' ((with_reducible first | refine Box.mk ?_ | refine And.intro (fun _ => ?_) (fun _ => ?_) | fail) <;> conv => whnf))
      · exfalso; rename_i h; have h : ((G.length : Nat) : Int) < ((hdl G).length : Int) := h; omega
      exact weak_to ⟨rfl, trivial⟩ rfl
  · have q3 : ∀ h ∈ G, DCall P 18 [.ptr 0 0, .int .u32 (h.dom : Int), .int .i64 h.t.id] [.box 67 [.nilm]] (.tup [tv h.t, .bool true]) [.box 67 [.nilm]] := fun h hx => by
      have := q3 h hx
      rw [show findE es (h.dom, h.t.id) = some h from hf h hx] at this
      exact this
    have q1 : DCall P _ _ [.box 67 [.nilm]] _ _ := q1
    show DCall P _ _ [.box 67 [.nilm]] _ [.box 67 [.nilm]]
    refine DCall.of_awp tok mixed fn11 (Nat.le_of_ble_eq_true rfl) ?_
    (conv => whnf); (repeat' ((with_reducible first | refine Box.mk ?_ | refine And.intro (fun _ => ?_) (fun _ => ?_) | fail) <;> conv => whnf))
    all_goals try contradiction
    refine aW [0] q1 rfl rfl rfl ?_
    (conv => whnf); (repeat' ((first | (with_reducible refine Box.mk ?_) | ((with_reducible show ACall _ _ _ _ _); refine ACall.of_pure (by assumption) (by rfl) ?_) | fail) <;> conv => whnf))
    refine aloop (fun i : Nat => i ≤ G.length) (fun i => ⟨envL [(0, .ptr 0 0), (1, .sl (hdl G)), (5, .int .i64 (i : Int))], [.box 67 [.nilm]]⟩) (fun i => G.length - i) 0 (Nat.zero_le _) (weak_ren_to [(0, true)] rfl rfl rfl ⟨rfl, rfl, rfl, trivial⟩) ?_
    intro i hi
    by_cases hlt : i < G.length
    · have hx := List.getElem?_eq_getElem hlt
      have hr := hr _ (List.mem_of_getElem? hx)
      have q3 := q3 _ (List.mem_of_getElem? hx)
      generalize G[i] = h at *
      have hg := hdl_get2 hx
      have q4 := same_refl h.t (by have := rightT_len hr; omega)
      (conv => whnf); (repeat' ((with_reducible first | refine Box.mk ?_ | refine And.intro (fun _ => ?_) (fun _ => ?_) | fail) <;> conv => whnf))
      rotate_left
      · exfalso; rename_i h; have h : ¬ (i : Int) < ((hdl G).length : Int) := h; omega
      refine ⟨[(16, [3, 5, 8, 11, 12])], by kernel_rfl, ?_⟩
      (conv => whnf); repeat' ((with_reducible refine Box.mk ?_) <;> conv => whnf)
      refine ⟨by omega, hdc h, hg, rfl, ?_⟩
      (conv => whnf); repeat' ((with_reducible refine Box.mk ?_) <;> conv => whnf)
      refine ⟨by omega, hdc h, hg, rfl, ?_⟩
      (conv => whnf); repeat' ((with_reducible refine Box.mk ?_) <;> conv => whnf)
      refine aDr [0] q3 rfl rfl rfl rfl ?_
      (conv => whnf); repeat' ((with_reducible refine Box.mk ?_) <;> conv => whnf)
      refine ⟨⟨⟨by omega, _, hg, rfl, rfl, rfl⟩, ⟨rfl, rfl⟩, ⟨by omega, _, hg, rfl, rfl, rfl⟩, ⟨rfl, rfl⟩, aW [0] q3 rfl rfl rfl ⟨rfl, rfl⟩, trivial⟩, ?_⟩
      (conv => whnf); repeat' ((with_reducible refine Box.mk ?_) <;> conv => whnf)
      refine ⟨[], by kernel_rfl, ?_⟩
      (conv => whnf); repeat' ((with_reducible refine Box.mk ?_) <;> conv => whnf)
      refine ⟨by omega, hdc h, hg, rfl, ?_⟩
      (conv => whnf); (repeat' ((first | (with_reducible refine Box.mk ?_) | ((with_reducible show Exists _); refine ⟨_, ACall.of_pure (by assumption) (by rfl) ⟨rfl, rfl⟩, ?_⟩) | fail) <;> conv => whnf))
      exact ⟨i + 1, hlt, by omega, weak_ren_to [(0, true)] rfl rfl rfl ⟨rfl, rfl, wrap_nat (m := 1) (by omega), trivial⟩⟩
    · have : i = G.length := by omega
      subst this
      (conv => whnf); (repeat' ((with_reducible first | refine Box.mk ?_ | refine And.intro (fun _ => ?_) (fun _ => ?_) | fail) <;> conv => whnf))
      · exfalso; rename_i h; have h : ((G.length : Nat) : Int) < ((hdl G).length : Int) := h; omega
      exact weak_to ⟨rfl, trivial⟩ rfl
end Go.Proofs.YtnajpmepcffnaaaGreatDoor
end

section
/- alive17. -/
namespace Go.Proofs.YtnajpmepcffnaaaGreatDoor
open Go.Ve

def fs0 : List Sc := [⟨8, 0, 4⟩, ⟨1, 0, 2⟩]
def t0 : Tm := ⟨256, 0, fs0⟩
def f0 : Rc := ⟨⟨1, 32, 167772161 * 2 ^ 96, []⟩, zeroK, zeroK, zeroK, 0, 500⟩
def h0 : Hh := ⟨1, 0, 7, 0, 0⟩
def a0B : Bs := frameB 2 (tmplB 256 fs0)
def d0B : Bs := frameB 256 (putsB fs0 f0)
def b0B : Bs := msgB h0 [a0B, d0B].flatten
def w0B : Bs := frameB 2 (numB 2 2 ++ numB 0 2)
def m0B : Bs := msgB h0 [w0B, d0B].flatten
def c1S : Cs := ⟨false, [(⟨7, t0⟩, 0)], 1⟩
theorem t0_right : rightT t0 = true := by decide
theorem b0_val : b0B = [0, 10, 0, 42, 0, 0, 0, 1, 0, 0, 0, 0, 0, 0, 0, 7, 0, 2, 0, 16, 1, 0, 0, 2, 0, 8, 0, 4, 0, 1, 0, 2, 1, 0, 0, 10, 10, 0, 0, 1, 1, 244] := by kernel_rfl
theorem read_b0 : readM opC newS [0, 10, 0, 42, 0, 0, 0, 1, 0, 0, 0, 0, 0, 0, 0, 7, 0, 2, 0, 16, 1, 0, 0, 2, 0, 8, 0, 4, 0, 1, 0, 2, 1, 0, 0, 10, 10, 0, 0, 1, 1, 244] = (⟨c1S, 1, 0, 7, 0, 0, [f0]⟩, 0) := by kernel_rfl
theorem m0_val : m0B = [0, 10, 0, 34, 0, 0, 0, 1, 0, 0, 0, 0, 0, 0, 0, 7, 0, 2, 0, 8, 0, 2, 0, 0, 1, 0, 0, 10, 10, 0, 0, 1, 1, 244] := by kernel_rfl
theorem read_m0 : readM opC c1S [0, 10, 0, 34, 0, 0, 0, 1, 0, 0, 0, 0, 0, 0, 0, 7, 0, 2, 0, 8, 0, 2, 0, 0, 1, 0, 0, 10, 10, 0, 0, 1, 1, 244] = (⟨⟨false, [], 1⟩, 1, 0, 7, 1, 0, []⟩, 0) := by kernel_rfl
theorem list_nil : listE [] = [] := List.length_eq_zero_iff.1 (by rw [listE_len]; rfl)
theorem clone_new : cloneS newS = newS := by
  unfold cloneS newS
  rw [list_nil]; rfl
theorem list_c1 : listE c1S.es = [⟨7, t0⟩] := by
  refine Rel.list (by decide) ⟨?_, fun h => ?_⟩
  · unfold OrdC; exact List.pairwise_singleton _ _
  · constructor
    · intro hh; exact ⟨_, List.mem_singleton.2 rfl, (List.mem_singleton.1 hh).symm⟩
    · rintro ⟨e, he, rfl⟩; rw [List.mem_singleton.1 he]; exact List.mem_singleton.2 rfl
theorem clone_c1 : cloneS c1S = c1S := by
  unfold cloneS
  rw [list_c1]; rfl
end Go.Proofs.YtnajpmepcffnaaaGreatDoor
end

section
/- Code, walked in parts: between two parts the state may be said in fewer words. -/
namespace Go.Ve
open Go

variable {P : Program} {T : TT} {n : Nat}
theorem calls_of_sound [Dr] (hT : TOk P T) (_hm : P.follows .mixedOrders = true) {f : FuncId} {c : Code} {rs : List ResultVar} (hf : FnIs P f n c rs) {args : List AV} (hn : args.length ≤ n) {H : Hp} {K : List AV → Hp → Prop}
    (h : Sound P n none H.length c (FPost T rs K) ⟨env0 args, H⟩) {M0 : Nat → Prop} {σ : List Value} {w : World} {vs : List Value} (hs : St M0 H σ w) (hv : Rvs (Kof M0 H σ w) σ args vs) :
    Calls P f vs.toArray w fun e w' => ∃ xs us H' σ', e = .returned (if h : us.toArray.size = 1 then us.toArray[0] else .tuple us.toArray) ∧ K xs H' ∧ Rvs (Kof M0 H' σ' w') σ' xs us ∧ St M0 H' σ' w' ∧ Ext H σ w H' σ' w' := by
  obtain ⟨fn, h1, h2, rfl, rfl, h5⟩ := hf.ex
  refine (callsIn_wide (n := 0)).1 (callsIn_of_wp_marks (F := Fr none) h1 h2 trivial (wpIn_mono (h w.heap.size none [] M0 H σ w σ w _ hs.len (Ext.refl _ _ _) rfl (Nat.le_refl _) MarksOk.nil hs (hv.act hn)) fun e a' w' hq => ?_))
  obtain ⟨x, s', σ', D', rfl, k1, k2, k3, kD, kd, k4⟩ := hq
  have fin : ∀ (h1 : resOfs T s' fn.results.toList fun vs => K vs s'.H), LeavesInM (Fr none) 0 P fn a'.tmps (fun e w' => ∃ xs us H' σ', e = .returned (if h : us.toArray.size = 1 then us.toArray[0] else .tuple us.toArray) ∧ K xs H' ∧ Rvs (Kof M0 H' σ' w') σ' xs us ∧ St M0 H' σ' w' ∧ Ext H σ w H' σ' w') a'.defers .returning w' := by
    intro h1
    rw [k4.defers]
    refine leaves_marks D' w' (fun d hd => let ⟨r, e, _, _, hr⟩ := kD.each d hd; ⟨r, e, hr⟩) kD.nodup fun w'' hsh => ?_
    obtain ⟨q1, q2, q3⟩ := shut_ok hsh kD k2 k3
    obtain ⟨xs, us, m1, m2, m3⟩ := results_run (fn := fn) hT q1 (⟨k4.size, k4.defers, fun i => (k4.rv i).mono q3 (List.prefix_refl _)⟩ : ActOk D' _ σ' _ s'.env a') h1
    exact ⟨_, m3, xs, us, s'.H, σ', rfl, m1, m2, q1, q2⟩
  cases x with
  | exit id => exact k1.elim
  | normal => exact fin k1
  | ret => exact fin k1

theorem PCall.of_sound [Dr] (hT : TOk P T) (hm : P.follows .mixedOrders = true) {f : FuncId} {c : Code} {rs : List ResultVar} (hf : FnIs P f n c rs) {args : List AV} (hn : args.length ≤ n) {r : AV}
    (h : Sound P n none 0 c (PPost T rs r) ⟨env0 args, []⟩) : PCall P f args r := by
  unfold PCall
  refine ⟨hf.callable, fun M0 w vs hM hG hv => ?_⟩
  have hs : St M0 [] [] w := St.nil hM hG
  have h' : Sound P n none 0 c (FPost T rs fun xs H' => match viewAll H' xs with | some us => forceL us fun us' => mkRes us' = r | none => False) ⟨env0 args, []⟩ := by
    have e : (FPost T rs fun xs H' => match viewAll H' xs with | some us => forceL us fun us' => mkRes us' = r | none => False) = PPost T rs r := by
      funext x s; cases x <;> rfl
    rw [e]; exact h
  refine Calls.mono (calls_of_sound (H := []) hT hm hf hn h' hs (by rw [Kof_nil]; exact hv)) fun e w' he => ?_
  obtain ⟨xs, us, H', σ', rfl, k1, k2, k3, k4⟩ := he
  cases hva : viewAll H' xs with
  | none => rw [hva] at k1; exact k1.elim
  | some ys =>
    rw [hva] at k1
    simp only [forceL_eq] at k1
    subst k1
    exact ⟨_, rfl, ⟨k4.os, k4.tape, k4.output, k4.size, fun b hb => k4.keep b hb Mb_nil⟩, mk_run (viewAll_rv k3 k2 hva)⟩

theorem Sound.seq [Dr] {rd : Option Nat} {N0 : Nat} (hT : TOk P T) (hm : P.follows .mixedOrders = true) {x y : Code} {Q : AQ} {s : AS} (h : AWP P T n rd N0 x (afterQ (fun s' => Sound P n rd N0 y Q s') Q) s) : Sound P n rd N0 (.seq x y) Q s := by
  intro B rc D M0 H0 σ0 w0 σ w a hN0 hE hrd hBw hD hs ha
  refine wpIn_seq (wpIn_mono (awp_sound hT hm x _ s h B rc D M0 H0 σ0 w0 σ w a hN0 hE hrd hBw hD hs ha) fun e a' w' hq => ?_)
  obtain ⟨x1, s', σ', D', rfl, k1, k2, k3, kD, kd, k4⟩ := hq
  cases x1 with
  | normal =>
    refine wpIn_mono (k1 B rc D' M0 H0 σ0 w0 σ' w' a' hN0 k3 hrd hBw kD k2 k4) fun e a'' w'' hq => ?_
    obtain ⟨x1, s'', σ'', D'', rfl, m1, m2, m3, mD, md, m4⟩ := hq
    exact ⟨x1, s'', σ'', D'', rfl, m1, m2, m3, mD, fun h => (md h).trans (kd h), m4⟩
  | exit id => exact ⟨.exit id, s', σ', D', rfl, k1, k2, k3, kD, kd, k4⟩
  | ret => exact ⟨.ret, s', σ', D', rfl, k1, k2, k3, kD, kd, k4⟩
theorem Sound.weak [Dr] {rd : Option Nat} {N0 : Nat} {c : Code} {Q : AQ} {s s2 : AS} (hw : Weak N0 s s2) (h : Sound P n rd N0 c Q s2) : Sound P n rd N0 c Q s := by
  intro B rc D M0 H0 σ0 w0 σ w a hN0 hE hrd hBw hD hs ha
  obtain ⟨σ2, m1, m2, m3, m4⟩ := hw M0 σ w n a D (by rw [← hN0]; exact hE.pre.length_le) hs ha
  refine h B rc D M0 H0 σ0 w0 σ2 w a hN0 ⟨hE.os, hE.tape, hE.output, hE.size, ?_, hE.keep, fun b hb hm => hE.mutb b hb (m2 b hm)⟩ hrd hBw (hD.weak m2) m3 m4
  obtain ⟨t, ht⟩ := hE.pre
  have : σ.take N0 = σ0 := by rw [← ht, ← hN0]; simp
  rw [this] at m1; exact m1
theorem Sound.awp [Dr] {rd : Option Nat} {N0 : Nat} (hT : TOk P T) (hm : P.follows .mixedOrders = true) {c : Code} {Q : AQ} {s : AS} (h : AWP P T n rd N0 c Q s) : Sound P n rd N0 c Q s := awp_sound hT hm c Q s h
end Go.Ve
end

section
/- alive17. -/
namespace Go.Proofs.YtnajpmepcffnaaaGreatDoor
open Go.Ve
attribute [local irreducible] Sound
def F0 : List AV := [.int .i64 1, .int .i64 32, .int .u64 720575944674246656, .int .u64 0, .str [], .int .i64 0, .int .i64 0, .int .u64 0, .int .u64 0, .str [], .int .i64 0, .int .i64 0, .int .u64 0, .int .u64 0, .str [], .int .i64 0, .int .i64 0, .int .u64 0, .int .u64 0, .str [], .int .u64 0, .int .u64 500]
theorem f0_cells : rcc f0 = F0 := by kernel_rfl
theorem fs0_all {p : Sc → Prop} (h1 : p ⟨8, 0, 4⟩) (h2 : p ⟨1, 0, 2⟩) : ∀ s ∈ fs0, p s := fun s hs => by
  rcases List.mem_cons.1 hs with rfl | hs
  · exact h1
  · rw [List.mem_singleton.1 hs]; exact h2
def T0 : List AV := [.int .i64 256, .int .i64 0, .sl (scl fs0)]
theorem tellA : DCall P 27 [.sl [T0]] [] (.tup [.sl (bcl a0B), .int .i64 0]) [] :=
  templates_one 256 fs0 t0_right (by decide) (fs0_all ⟨by decide, by decide⟩ ⟨by decide, by decide⟩)
theorem tellD : DCall P 28 [.agg T0, .sl [F0]] [] (.tup [.sl (bcl d0B), .int .i64 0]) [] := by
  have := data_one 256 fs0 f0 t0_right (by decide) (by decide) (by decide)
    (fs0_all (by rw [show (ofR f0 ⟨8, 0, 4⟩).length = 4 from by kernel_rfl]; decide) (by rw [show (ofR f0 ⟨1, 0, 2⟩).length = 2 from by kernel_rfl]; decide))
    (by rw [show (putsB fs0 f0).length = 6 from by kernel_rfl]; decide)
  rwa [f0_cells] at this
def Hv0 : AV := .agg [.int .u32 1, .int .u32 0, .int .u32 7, .int .i64 0, .int .i64 0]
theorem h0_ok : HhOk h0 := ⟨by decide, by decide, by decide⟩
theorem tellB : DCall P 13 [Hv0, .sl [[.sl (bcl a0B)], [.sl (bcl d0B)]]] [] (.tup [.sl (bcl b0B), .int .i64 0]) [] :=
  message_ok h0 h0_ok [a0B, d0B] (by show 2 ≤ _; omega) (by rw [show [a0B, d0B].flatten.length = 26 from by kernel_rfl]; omega)
theorem tellM : DCall P 13 [Hv0, .sl [[.sl (bcl w0B)], [.sl (bcl d0B)]]] [] (.tup [.sl (bcl m0B), .int .i64 0]) [] :=
  message_ok h0 h0_ok [w0B, d0B] (by show 2 ≤ _; omega) (by rw [show [w0B, d0B].flatten.length = 18 from by kernel_rfl]; omega)
theorem b0_len : b0B.length = 42 := by rw [b0_val]; rfl
theorem m0_len : m0B.length = 34 := by rw [m0_val]; rfl
theorem tel17R : DCall P 8 [.ptr 0 0, .sl (bcl b0B)] [.box 67 [.nilm]] (.tup [.ptr 1 0, .sl [F0], Hv0, .int .i64 0]) [.box 67 [.nilm], .box 67 [.own 2], .map pk2 (ces c1S.es) 1] := by
  have h := (ipRead_ok newS CI.new b0B (by rw [b0_len]; omega)).2
  rw [clone_new, b0_val, read_b0] at h
  have h := h rfl
  rw [b0_val]
  have e : goodV (cH newS).length (⟨c1S, 1, 0, 7, 0, 0, [f0]⟩ : Rd Cs) = .tup [.ptr 1 0, .sl [F0], Hv0, .int .i64 0] := by
    unfold goodV
    rw [show rcl (⟨c1S, 1, 0, 7, 0, 0, [f0]⟩ : Rd Cs).out = [rcc f0] from rfl, f0_cells]; rfl
  dsimp only at h
  rw [e] at h
  exact h
theorem c1_ci : CI c1S := by
  have h := ci_read (c := newS) CI.new (b := b0B) (by rw [b0_len]; omega)
  rwa [b0_val, read_b0] at h
theorem c2_ci : CI ⟨false, [], 1⟩ := by
  have h := ci_read (c := c1S) c1_ci (b := m0B) (by rw [m0_len]; omega)
  rwa [m0_val, read_m0] at h
theorem tel17X : DCall P 8 [.ptr 0 0, .sl (bcl m0B)] [.box 67 [.own 1], .map pk2 (ces c1S.es) 1] (.tup [.ptr 2 0, .sl [], .agg [.int .u32 1, .int .u32 0, .int .u32 7, .int .i64 1, .int .i64 0], .int .i64 0]) [.box 67 [.own 1], .map pk2 (ces c1S.es) 1, .box 67 [.own 3], .map pk2 [] 1] := by
  have h := (ipRead_ok c1S c1_ci m0B (by rw [m0_len]; omega)).2
  rw [clone_c1, m0_val, read_m0] at h
  rw [m0_val]
  exact h rfl
theorem tellF : DCall P 18 [.ptr 0 0, .int .u32 7, .int .i64 256] [.box 67 [.own 1], .map pk2 (ces c1S.es) 1] (.tup [.agg T0, .bool true]) [.box 67 [.own 1], .map pk2 (ces c1S.es) 1] := find_ok c1S c1_ci 7 256
theorem tellS : PCall P 19 [.agg T0, .agg T0] (.bool true) := same_refl t0 (by decide)
theorem tellL : DCall P 15 [.ptr 0 0] [.box 67 [.own 1], .map pk2 [] 1] (.sl []) [.box 67 [.own 1], .map pk2 [] 1] := by
  have h := list_ok ⟨false, [], 1⟩ c2_ci
  rw [show listE (⟨false, [], 1⟩ : Cs).es = [] from list_nil] at h
  exact h
theorem tellW : DCall P 29 [.bool false, .sl [[.int .i64 2]]] [] (.tup [.sl (bcl w0B), .int .i64 0]) [] := withdraw_one
set_option maxHeartbeats 4000000 in
theorem alive_17 : PCall P 12 [] (.bool true) := by
  have qA := tellA
  have qD := tellD
  have qB := tellB
  have qM := tellM
  have qR := tel17R
  have qX := tel17X
  have qF := tellF
  have qS := tellS
  have qL := tellL
  have qW := tellW
  have qN := read_nilp b0B
  have qT := templates_nil
  have qC := cnew_ok
  have hbl : (bcl b0B).length = 42 := by rw [bcl_len, b0_len]
  have hbl2 : ((bcl b0B).length : Int) = 42 := by rw [hbl]; rfl
  generalize a0B = a at *
  generalize d0B = dd at *
  generalize b0B = b at *
  generalize w0B = w at *
  generalize m0B = m at *
  generalize ces c1S.es = es at *
  unfold T0 Hv0 F0 badV hv0 at *
  refine PCall.of_sound tok mixed fn12 (Nat.le_of_ble_eq_true rfl) ?_
  refine Sound.seq tok mixed ?_
  (conv => whnf); repeat' ((with_reducible refine Box.mk ?_) <;> conv => whnf)
  refine Sound.seq tok mixed ?_
  (conv => whnf); repeat' ((with_reducible refine Box.mk ?_) <;> conv => whnf)
  refine Sound.weak ((weak_const 0 rfl (l := [(1, .ptr 1 0)]) rfl ⟨rfl, trivial⟩).trans (weak_ren_to (l := [(1, .ptr 0 0)]) (H' := [.box 58 [.int .i64 256, .int .i64 0, .sl (scl fs0)]]) [(1, true)] rfl rfl rfl ⟨rfl, trivial⟩)) ?_
  refine Sound.awp tok mixed ?_
  (conv => whnf); repeat' ((with_reducible refine Box.mk ?_) <;> conv => whnf)
  refine ACall.freeze 2 rfl rfl ?_
  refine aW [] qA rfl rfl rfl ?_
  (conv => whnf); repeat' ((with_reducible refine Box.mk ?_) <;> conv => whnf)
  refine ACall.freeze 3 rfl rfl ?_
  refine aW [] qD rfl rfl rfl ?_
  (conv => whnf); repeat' ((with_reducible refine Box.mk ?_) <;> conv => whnf)
  refine ACall.freeze 4 rfl rfl ?_
  refine aW [] qB rfl rfl rfl ?_
  (conv => whnf); repeat' ((with_reducible refine Box.mk ?_) <;> conv => whnf)
  refine aW [] qC rfl rfl rfl ?_
  (conv => whnf); repeat' ((with_reducible refine Box.mk ?_) <;> conv => whnf)
  refine aW [5] qR rfl rfl rfl ?_
  (conv => whnf); (repeat' ((with_reducible first | refine Box.mk ?_ | refine And.intro (fun _ => ?_) (fun _ => ?_) | fail) <;> conv => whnf))
  all_goals try contradiction
  all_goals try exact absurd hbl2 (by assumption)
  all_goals try exact absurd rfl (by assumption)
  refine aW [6, 7] qF rfl rfl rfl ?_
  (conv => whnf); repeat' ((with_reducible refine Box.mk ?_) <;> conv => whnf)
  refine ACall.freeze 10 rfl rfl ?_
  refine aW [] qW rfl rfl rfl ?_
  (conv => whnf); repeat' ((with_reducible refine Box.mk ?_) <;> conv => whnf)
  refine ACall.freeze 11 rfl rfl ?_
  refine aW [] qM rfl rfl rfl ?_
  (conv => whnf); repeat' ((with_reducible refine Box.mk ?_) <;> conv => whnf)
  refine aW [6, 7] qX rfl rfl rfl ?_
  (conv => whnf); repeat' ((with_reducible refine Box.mk ?_) <;> conv => whnf)
  refine aW [] qN rfl rfl rfl ?_
  (conv => whnf); repeat' ((with_reducible refine Box.mk ?_) <;> conv => whnf)
  refine aW [] qT rfl rfl rfl ?_
  (conv => whnf); repeat' ((with_reducible refine Box.mk ?_) <;> conv => whnf)
  refine ⟨[], by kernel_rfl, ?_⟩
  (conv => whnf); repeat' ((with_reducible refine Box.mk ?_) <;> conv => whnf)
  refine ⟨Int.le_refl _, _, rfl, rfl, ?_⟩
  (conv => whnf); (repeat' ((first | (with_reducible first | refine Box.mk ?_ | refine And.intro (fun _ => ?_) (fun _ => ?_) | fail) | ((with_reducible show Exists _); refine ⟨_, ACall.of_pure (by assumption) (by rfl) ⟨rfl, rfl⟩, ?_⟩) | fail) <;> conv => whnf))
  all_goals try (rename_i h; first | exact h.elim | exact absurd rfl h | exact absurd (by simp) h)
  refine aDr [12, 13] qL rfl rfl rfl rfl ?_
  (conv => whnf); (repeat' ((with_reducible first | refine Box.mk ?_ | refine And.intro (fun _ => ?_) (fun _ => ?_) | fail) <;> conv => whnf))
  all_goals try (rename_i h; first | exact h.elim | exact absurd rfl h | exact absurd (by simp) h)
  all_goals try rfl
end Go.Proofs.YtnajpmepcffnaaaGreatDoor
end

section
/- law17: IpfixApart, what is said. -/
namespace Go.Proofs.YtnajpmepcffnaaaGreatDoor
open Go.Ve

theorem Keeps.symm {d : Nat} {c c' : Cs} (h : Keeps d c c') : Keeps d c' c := fun g hg => (h g hg).symm
theorem keeps_clone {c : Cs} (hc : CI c) (d : Nat) : Keeps d c (cloneS c) := fun g _ => by
  rw [← (listE_rel hc.nodup).2 g, (clone_rel hc).2 g]
theorem setF_outs (d : Rd Cs) (id : Nat) (b : Bs) : (setF opC d id b).1.out.length ≤ d.out.length + b.length := by
  unfold setF
  split
  · exact Nat.le_add_right _ _
  · split
    · exact Nat.le_add_right _ _
    · split
      · exact Nat.le_add_right _ _
      · unfold recordsF
        split
        · exact Nat.le_add_right _ _
        · split
          · exact Nat.le_add_right _ _
          · exact recs_more _ _ _ _
theorem sets_outs : ∀ (n : Nat) {d : Rd Cs} (bs : Bs), (setsF opC n d bs).1.out.length ≤ d.out.length + bs.length
  | 0, d, bs => Nat.le_add_right _ _
  | n + 1, d, bs => by
    unfold setsF
    split
    · exact Nat.le_add_right _ _
    · split
      · exact Nat.le_add_right _ _
      · split
        · exact Nat.le_add_right _ _
        · split
          · exact Nat.le_add_right _ _
          · have h1 := setF_outs d (idB bs) ((bs.drop 4).take (cntB bs - 4))
            have hl : ((bs.drop 4).take (cntB bs - 4)).length + (bs.drop (cntB bs)).length ≤ bs.length := by simp only [List.length_take, List.length_drop]; omega
            generalize setF opC d (idB bs) ((bs.drop 4).take (cntB bs - 4)) = q0 at *
            obtain ⟨d1, er⟩ := q0
            dsimp only at h1 ⊢
            split
            · show d1.out.length ≤ _; omega
            · have := sets_outs n (d := d1) (bs.drop (cntB bs))
              omega
theorem read_says {c : Cs} (hc : CI c) {b : Bs} (hb : b.length ≤ 1000000000) (h0 : (readM opC (cloneS c) b).2 = 0) :
    CI (readM opC (cloneS c) b).1.c ∧ Keeps (readM opC (cloneS c) b).1.dom c (readM opC (cloneS c) b).1.c ∧ (∀ r ∈ (readM opC (cloneS c) b).1.out, rightR r = true) ∧ (readM opC (cloneS c) b).1.out.length ≤ 1000000000 := by
  refine ⟨ci_read hc.clone hb, ?_⟩
  unfold readM at *
  by_cases hh : headE b ≠ 0
  · rw [if_pos hh] at h0; exact absurd h0 hh
  · rw [if_neg hh]
    have hk := keeps_sets (b.drop 16).length ⟨cloneS c, hTime b, hSeq b, hDom b, 0, 0, []⟩ (b.drop 16)
    have hr := sets_right opC (b.drop 16).length ⟨cloneS c, hTime b, hSeq b, hDom b, 0, 0, []⟩ (b.drop 16) (fun r hr => by cases hr)
    have hdm := (sets_dom opC (b.drop 16).length ⟨cloneS c, hTime b, hSeq b, hDom b, 0, 0, []⟩ (b.drop 16)).1
    have ho := sets_outs (b.drop 16).length (d := ⟨cloneS c, hTime b, hSeq b, hDom b, 0, 0, []⟩) (b.drop 16)
    refine ⟨?_, hr, Nat.le_trans ho ?_⟩
    · rw [hdm]
      exact (keeps_clone hc _).trans hk
    · show 0 + (b.drop 16).length ≤ _
      rw [List.length_drop]; omega
end Go.Proofs.YtnajpmepcffnaaaGreatDoor
end

section
/- law17: IpfixSplits, what is said: two messages' sets, read one behind the other and as one message. -/
namespace Go.Proofs.YtnajpmepcffnaaaGreatDoor
open Go.Ve

theorem split_says {c : Cs} (hc : CI c) {h : Hh} (hh : HhOk h) {a b : Bs} (hb : 16 + (a ++ b).length ≤ 65535) (h0 : (readM opC (cloneS c) (msgB h a)).2 = 0) {d n m : Rd Cs} {em en : Int}
    (hd : (readM opC (cloneS c) (msgB h a)).1 = d) (hm : readM opC (cloneS d.c) (msgB h b) = (m, em)) (hn : readM opC (cloneS c) (msgB h (a ++ b)) = (n, en)) :
    en = em ∧ listE n.c.es = listE m.c.es ∧ n.out = d.out ++ m.out ∧ n.lost = d.lost + m.lost ∧ n.idle = d.idle + m.idle := by
  obtain ⟨h1, h2, h3⟩ := hh
  have hl : a.length + b.length = (a ++ b).length := (List.length_append).symm
  have k1 := read_two opC (cloneS c) (h := h) (a := a) (b := b) hb h1 h2 h3 h0
  rw [hn, hd] at k1
  have hdc : CI d.c := by
    rw [← hd]
    exact (read_says hc (b := msgB h a) (by rw [msg_len]; omega) h0).1
  have r1 : RC d.c (listE d.c.es) := ⟨hdc, listE_rel hdc.nodup⟩
  have r2 : RC (cloneS d.c) (listE d.c.es) := ⟨hdc.clone, clone_rel hdc⟩
  obtain ⟨⟨⟨c1, x1⟩, _, _, _, y1, z1, w1⟩, e1⟩ := sim_read simC r1 (msgB h b)
  obtain ⟨⟨⟨c2, x2⟩, _, _, _, y2, z2, w2⟩, e2⟩ := sim_read simC r2 (msgB h b)
  rw [hm] at c2 x2 y2 z2 w2 e2
  dsimp only at c2 x2 y2 z2 w2 e2
  generalize readM opG (listE d.c.es) (msgB h b) = g at *
  generalize readM opC d.c (msgB h b) = s at *
  unfold shiftR at k1
  rw [Prod.mk.injEq] at k1
  obtain ⟨k2, k3⟩ := k1
  subst k2
  dsimp only
  refine ⟨by rw [k3, e1, e2], ?_, by rw [w1, w2], by rw [y1, y2], by rw [z1, z2]⟩
  rw [x1.list c1.nodup, x2.list c2.nodup]
end Go.Proofs.YtnajpmepcffnaaaGreatDoor
end

section
/- law17: IpfixSplits, from the back. -/
namespace Go.Proofs.YtnajpmepcffnaaaGreatDoor
open Go.Ve
attribute [local irreducible] Sound
def cdrC : Nat → Code → Code
  | 0, c => c
  | n + 1, .seq _ y => cdrC n y
  | _ + 1, c => c
noncomputable def spK (n : Nat) : Code := cdrC n (Tryz.f5.body.getD .skip)
abbrev SpS (n : Nat) (s : AS) : Prop := Sound P Tryz.f5.ntmps none 0 (spK n) (PPost ty Tryz.f5.results.toList (.bool true)) s
def hdB (ti sq dm lo il : Nat) : Ob := .box 29 [.int .u32 (ti : Int), .int .u32 (sq : Int), .int .u32 (dm : Int), .int .i64 (lo : Int), .int .i64 (il : Int)]
theorem rcl_cells (l : List Rc) : allCells 22 (rcl l) := fun c hc => by
  obtain ⟨x, _, rfl⟩ := List.mem_map.1 hc; exact ⟨rfl, rfl⟩
def msgR (h : Hh) (b : Bs) : Bs := if 16 + b.length ≤ 65535 then msgB h b else []
def msgE (b : Bs) : Int := if 16 + b.length ≤ 65535 then 0 else 2
theorem message_all (h : Hh) (hh : HhOk h) (l : List Bs) (hl : l.length ≤ 1000000000) : DCall P 13 [hhv h, .sl (bll l)] [] (.tup [.sl (bcl (msgR h l.flatten)), .int .i64 (msgE l.flatten)]) [] := by
  unfold msgR msgE
  by_cases hn : 16 + l.flatten.length ≤ 65535
  · rw [if_pos hn, if_pos hn]
    exact message_ok h hh l hl hn
  · rw [if_neg hn, if_neg hn]
    exact (message_no h l hl (by omega)).post fun r H' h => by
      obtain ⟨rfl, rfl⟩ := h
      exact ⟨_, _, weak_nr [] rfl rfl rfl rfl, rfl, rfl⟩

set_option maxHeartbeats 4000000 in
theorem spDFF (es1 es2 : Es) (clk1 clk2 : Nat) (hp : CI ⟨false, es1, clk1⟩) (hq : CI ⟨false, es2, clk2⟩) (hl : listE es2 = listE es1) (ou om : List Rc) (h1 : ou.length + om.length ≤ 2000000000)
    (t0 t1 t2 s0 s1 s2 d0 d1 d2 lo lo2 il il2 : Nat) (k1 : lo + lo2 ≤ 2000000000) (k2 : il + il2 ≤ 2000000000) :
    SpS 11 ⟨envL [(22, .sl (rcl ou)), (23, .ptr 0 0), (25, .ptr 1 0), (26, .sl (rcl om)), (27, .ptr 3 0), (28, .int .i64 0), (29, .ptr 4 0), (30, .sl (rcl (ou ++ om))), (31, .ptr 6 0), (32, .int .i64 0)], [hdB t0 s0 d0 lo il, .box 67 [.own 2], .map pk2 (ces es1) clk1, hdB t1 s1 d1 lo2 il2, .box 67 [.own 5], .map pk2 (ces es2) clk2, hdB t2 s2 d2 (lo + lo2) (il + il2)]⟩ := by
  have qL : DCall P 15 [.ptr 0 0] (CHp es2 clk2) (.sl (hdl (listE es2))) (CHp es2 clk2) := list_ok ⟨false, es2, clk2⟩ hq
  have qT : DCall P 11 [.ptr 0 0, .sl (hdl (listE es1))] (CHp es1 clk1) (.bool true) (CHp es1 clk1) := tmplsSame_ok ⟨false, es1, clk1⟩ hp
  rw [hl] at qL
  have qa := alive_17
  have qS := sameRecs_refl (ou ++ om) (by rw [List.length_append]; omega)
  have e1 : IntKind.i64.wrap ((lo : Int) + (lo2 : Int)) = ((lo + lo2 : Nat) : Int) := by rw [wrap_i64 (by omega) (by omega)]; omega
  have e2 : IntKind.i64.wrap ((il : Int) + (il2 : Int)) = ((il + il2 : Nat) : Int) := by rw [wrap_i64 (by omega) (by omega)]; omega
  have c1 := rcl_cells ou
  have c2 := rcl_cells om
  have l1 := rcl_len ou
  have l2 := rcl_len om
  have hcat : rcl (ou ++ om) = rcl ou ++ rcl om := List.map_append
  rw [hcat] at qS ⊢
  refine Sound.awp tok mixed ?_
  (conv => whnf); (repeat' ((first | (with_reducible first | refine Box.mk ?_ | refine And.intro (fun _ => ?_) (fun _ => ?_) | fail) | ((with_reducible show ACall _ _ _ _ _); refine ACall.of_pure (by assumption) (by rfl) ?_) | fail) <;> conv => whnf))
  all_goals try contradiction
  refine aW [4, 5] qL rfl rfl rfl ?_
  (conv => whnf); repeat' ((with_reducible refine Box.mk ?_) <;> conv => whnf)
  refine aW [1, 2] qT rfl rfl rfl ?_
  (conv => whnf); (repeat' ((first | (with_reducible refine Box.mk ?_) | ((with_reducible show ACall _ _ _ _ _); refine ACall.of_pure (by assumption) (by rfl) ?_) | fail) <;> conv => whnf))
  all_goals try contradiction
  refine ⟨c1, by rw [l1]; show (0 + _) * 208 ≤ _; omega, by rw [l1]; show 0 + _ ≤ _; omega, ?_⟩
  (conv => whnf); repeat' ((with_reducible refine Box.mk ?_) <;> conv => whnf)
  refine ⟨c2, by rw [l2]; show ((rcl ou).length + _) * 208 ≤ _; omega, by rw [l2]; show (rcl ou).length + _ ≤ _; omega, ?_⟩
  (conv => whnf); repeat' ((with_reducible refine Box.mk ?_) <;> conv => whnf)
  refine ACall.freeze 9 rfl rfl ?_
  refine ACall.of_pure qS rfl ?_
  (conv => whnf); (repeat' ((with_reducible first | refine Box.mk ?_ | refine And.intro (fun _ => ?_) (fun _ => ?_) | fail) <;> conv => whnf))
  all_goals first
    | rfl
    | (exfalso; omega)

set_option maxHeartbeats 4000000 in
theorem spDFN (es1 es2 : Es) (clk1 clk2 : Nat) (hp : CI ⟨false, es1, clk1⟩) (hq : CI ⟨true, es2, clk2⟩) (hl : listE es2 = listE es1) (ou om : List Rc) (h1 : ou.length + om.length ≤ 2000000000)
    (t0 t1 t2 s0 s1 s2 d0 d1 d2 lo lo2 il il2 : Nat) (k1 : lo + lo2 ≤ 2000000000) (k2 : il + il2 ≤ 2000000000) :
    SpS 11 ⟨envL [(22, .sl (rcl ou)), (23, .ptr 0 0), (25, .ptr 1 0), (26, .sl (rcl om)), (27, .ptr 3 0), (28, .int .i64 0), (29, .ptr 4 0), (30, .sl (rcl (ou ++ om))), (31, .ptr 5 0), (32, .int .i64 0)], [hdB t0 s0 d0 lo il, .box 67 [.own 2], .map pk2 (ces es1) clk1, hdB t1 s1 d1 lo2 il2, .box 67 [.nilm], hdB t2 s2 d2 (lo + lo2) (il + il2)]⟩ := by
  have qL : DCall P 15 [.ptr 0 0] [.box 67 [.nilm]] (.sl (hdl (listE es2))) [.box 67 [.nilm]] := list_ok ⟨true, es2, clk2⟩ hq
  have qT : DCall P 11 [.ptr 0 0, .sl (hdl (listE es1))] (CHp es1 clk1) (.bool true) (CHp es1 clk1) := tmplsSame_ok ⟨false, es1, clk1⟩ hp
  rw [hl] at qL
  have qa := alive_17
  have qS := sameRecs_refl (ou ++ om) (by rw [List.length_append]; omega)
  have e1 : IntKind.i64.wrap ((lo : Int) + (lo2 : Int)) = ((lo + lo2 : Nat) : Int) := by rw [wrap_i64 (by omega) (by omega)]; omega
  have e2 : IntKind.i64.wrap ((il : Int) + (il2 : Int)) = ((il + il2 : Nat) : Int) := by rw [wrap_i64 (by omega) (by omega)]; omega
  have c1 := rcl_cells ou
  have c2 := rcl_cells om
  have l1 := rcl_len ou
  have l2 := rcl_len om
  have hcat : rcl (ou ++ om) = rcl ou ++ rcl om := List.map_append
  rw [hcat] at qS ⊢
  refine Sound.awp tok mixed ?_
  (conv => whnf); (repeat' ((first | (with_reducible first | refine Box.mk ?_ | refine And.intro (fun _ => ?_) (fun _ => ?_) | fail) | ((with_reducible show ACall _ _ _ _ _); refine ACall.of_pure (by assumption) (by rfl) ?_) | fail) <;> conv => whnf))
  all_goals try contradiction
  refine aW [4] qL rfl rfl rfl ?_
  (conv => whnf); repeat' ((with_reducible refine Box.mk ?_) <;> conv => whnf)
  refine aW [1, 2] qT rfl rfl rfl ?_
  (conv => whnf); (repeat' ((first | (with_reducible refine Box.mk ?_) | ((with_reducible show ACall _ _ _ _ _); refine ACall.of_pure (by assumption) (by rfl) ?_) | fail) <;> conv => whnf))
  all_goals try contradiction
  refine ⟨c1, by rw [l1]; show (0 + _) * 208 ≤ _; omega, by rw [l1]; show 0 + _ ≤ _; omega, ?_⟩
  (conv => whnf); repeat' ((with_reducible refine Box.mk ?_) <;> conv => whnf)
  refine ⟨c2, by rw [l2]; show ((rcl ou).length + _) * 208 ≤ _; omega, by rw [l2]; show (rcl ou).length + _ ≤ _; omega, ?_⟩
  (conv => whnf); repeat' ((with_reducible refine Box.mk ?_) <;> conv => whnf)
  refine ACall.freeze 8 rfl rfl ?_
  refine ACall.of_pure qS rfl ?_
  (conv => whnf); (repeat' ((with_reducible first | refine Box.mk ?_ | refine And.intro (fun _ => ?_) (fun _ => ?_) | fail) <;> conv => whnf))
  all_goals first
    | rfl
    | (exfalso; omega)

set_option maxHeartbeats 4000000 in
theorem spDNF (es1 es2 : Es) (clk1 clk2 : Nat) (hp : CI ⟨true, es1, clk1⟩) (hq : CI ⟨false, es2, clk2⟩) (hl : listE es2 = listE es1) (ou om : List Rc) (h1 : ou.length + om.length ≤ 2000000000)
    (t0 t1 t2 s0 s1 s2 d0 d1 d2 lo lo2 il il2 : Nat) (k1 : lo + lo2 ≤ 2000000000) (k2 : il + il2 ≤ 2000000000) :
    SpS 11 ⟨envL [(22, .sl (rcl ou)), (23, .ptr 0 0), (25, .ptr 1 0), (26, .sl (rcl om)), (27, .ptr 2 0), (28, .int .i64 0), (29, .ptr 3 0), (30, .sl (rcl (ou ++ om))), (31, .ptr 5 0), (32, .int .i64 0)], [hdB t0 s0 d0 lo il, .box 67 [.nilm], hdB t1 s1 d1 lo2 il2, .box 67 [.own 4], .map pk2 (ces es2) clk2, hdB t2 s2 d2 (lo + lo2) (il + il2)]⟩ := by
  have qL : DCall P 15 [.ptr 0 0] (CHp es2 clk2) (.sl (hdl (listE es2))) (CHp es2 clk2) := list_ok ⟨false, es2, clk2⟩ hq
  have qT : DCall P 11 [.ptr 0 0, .sl (hdl (listE es1))] [.box 67 [.nilm]] (.bool true) [.box 67 [.nilm]] := tmplsSame_ok ⟨true, es1, clk1⟩ hp
  rw [hl] at qL
  have qa := alive_17
  have qS := sameRecs_refl (ou ++ om) (by rw [List.length_append]; omega)
  have e1 : IntKind.i64.wrap ((lo : Int) + (lo2 : Int)) = ((lo + lo2 : Nat) : Int) := by rw [wrap_i64 (by omega) (by omega)]; omega
  have e2 : IntKind.i64.wrap ((il : Int) + (il2 : Int)) = ((il + il2 : Nat) : Int) := by rw [wrap_i64 (by omega) (by omega)]; omega
  have c1 := rcl_cells ou
  have c2 := rcl_cells om
  have l1 := rcl_len ou
  have l2 := rcl_len om
  have hcat : rcl (ou ++ om) = rcl ou ++ rcl om := List.map_append
  rw [hcat] at qS ⊢
  refine Sound.awp tok mixed ?_
  (conv => whnf); (repeat' ((first | (with_reducible first | refine Box.mk ?_ | refine And.intro (fun _ => ?_) (fun _ => ?_) | fail) | ((with_reducible show ACall _ _ _ _ _); refine ACall.of_pure (by assumption) (by rfl) ?_) | fail) <;> conv => whnf))
  all_goals try contradiction
  refine aW [3, 4] qL rfl rfl rfl ?_
  (conv => whnf); repeat' ((with_reducible refine Box.mk ?_) <;> conv => whnf)
  refine aW [1] qT rfl rfl rfl ?_
  (conv => whnf); (repeat' ((first | (with_reducible refine Box.mk ?_) | ((with_reducible show ACall _ _ _ _ _); refine ACall.of_pure (by assumption) (by rfl) ?_) | fail) <;> conv => whnf))
  all_goals try contradiction
  refine ⟨c1, by rw [l1]; show (0 + _) * 208 ≤ _; omega, by rw [l1]; show 0 + _ ≤ _; omega, ?_⟩
  (conv => whnf); repeat' ((with_reducible refine Box.mk ?_) <;> conv => whnf)
  refine ⟨c2, by rw [l2]; show ((rcl ou).length + _) * 208 ≤ _; omega, by rw [l2]; show (rcl ou).length + _ ≤ _; omega, ?_⟩
  (conv => whnf); repeat' ((with_reducible refine Box.mk ?_) <;> conv => whnf)
  refine ACall.freeze 8 rfl rfl ?_
  refine ACall.of_pure qS rfl ?_
  (conv => whnf); (repeat' ((with_reducible first | refine Box.mk ?_ | refine And.intro (fun _ => ?_) (fun _ => ?_) | fail) <;> conv => whnf))
  all_goals first
    | rfl
    | (exfalso; omega)

set_option maxHeartbeats 4000000 in
theorem spDNN (es1 es2 : Es) (clk1 clk2 : Nat) (hp : CI ⟨true, es1, clk1⟩) (hq : CI ⟨true, es2, clk2⟩) (hl : listE es2 = listE es1) (ou om : List Rc) (h1 : ou.length + om.length ≤ 2000000000)
    (t0 t1 t2 s0 s1 s2 d0 d1 d2 lo lo2 il il2 : Nat) (k1 : lo + lo2 ≤ 2000000000) (k2 : il + il2 ≤ 2000000000) :
    SpS 11 ⟨envL [(22, .sl (rcl ou)), (23, .ptr 0 0), (25, .ptr 1 0), (26, .sl (rcl om)), (27, .ptr 2 0), (28, .int .i64 0), (29, .ptr 3 0), (30, .sl (rcl (ou ++ om))), (31, .ptr 4 0), (32, .int .i64 0)], [hdB t0 s0 d0 lo il, .box 67 [.nilm], hdB t1 s1 d1 lo2 il2, .box 67 [.nilm], hdB t2 s2 d2 (lo + lo2) (il + il2)]⟩ := by
  have qL : DCall P 15 [.ptr 0 0] [.box 67 [.nilm]] (.sl (hdl (listE es2))) [.box 67 [.nilm]] := list_ok ⟨true, es2, clk2⟩ hq
  have qT : DCall P 11 [.ptr 0 0, .sl (hdl (listE es1))] [.box 67 [.nilm]] (.bool true) [.box 67 [.nilm]] := tmplsSame_ok ⟨true, es1, clk1⟩ hp
  rw [hl] at qL
  have qa := alive_17
  have qS := sameRecs_refl (ou ++ om) (by rw [List.length_append]; omega)
  have e1 : IntKind.i64.wrap ((lo : Int) + (lo2 : Int)) = ((lo + lo2 : Nat) : Int) := by rw [wrap_i64 (by omega) (by omega)]; omega
  have e2 : IntKind.i64.wrap ((il : Int) + (il2 : Int)) = ((il + il2 : Nat) : Int) := by rw [wrap_i64 (by omega) (by omega)]; omega
  have c1 := rcl_cells ou
  have c2 := rcl_cells om
  have l1 := rcl_len ou
  have l2 := rcl_len om
  have hcat : rcl (ou ++ om) = rcl ou ++ rcl om := List.map_append
  rw [hcat] at qS ⊢
  refine Sound.awp tok mixed ?_
  (conv => whnf); (repeat' ((first | (with_reducible first | refine Box.mk ?_ | refine And.intro (fun _ => ?_) (fun _ => ?_) | fail) | ((with_reducible show ACall _ _ _ _ _); refine ACall.of_pure (by assumption) (by rfl) ?_) | fail) <;> conv => whnf))
  all_goals try contradiction
  refine aW [3] qL rfl rfl rfl ?_
  (conv => whnf); repeat' ((with_reducible refine Box.mk ?_) <;> conv => whnf)
  refine aW [1] qT rfl rfl rfl ?_
  (conv => whnf); (repeat' ((first | (with_reducible refine Box.mk ?_) | ((with_reducible show ACall _ _ _ _ _); refine ACall.of_pure (by assumption) (by rfl) ?_) | fail) <;> conv => whnf))
  all_goals try contradiction
  refine ⟨c1, by rw [l1]; show (0 + _) * 208 ≤ _; omega, by rw [l1]; show 0 + _ ≤ _; omega, ?_⟩
  (conv => whnf); repeat' ((with_reducible refine Box.mk ?_) <;> conv => whnf)
  refine ⟨c2, by rw [l2]; show ((rcl ou).length + _) * 208 ≤ _; omega, by rw [l2]; show (rcl ou).length + _ ≤ _; omega, ?_⟩
  (conv => whnf); repeat' ((with_reducible refine Box.mk ?_) <;> conv => whnf)
  refine ACall.freeze 7 rfl rfl ?_
  refine ACall.of_pure qS rfl ?_
  (conv => whnf); (repeat' ((with_reducible first | refine Box.mk ?_ | refine And.intro (fun _ => ?_) (fun _ => ?_) | fail) <;> conv => whnf))
  all_goals first
    | rfl
    | (exfalso; omega)
end Go.Proofs.YtnajpmepcffnaaaGreatDoor
end

section
/- law17: IpfixSplits, put together. -/
namespace Go.Proofs.YtnajpmepcffnaaaGreatDoor
open Go.Ve
attribute [local irreducible] Sound
theorem ex_pair {α β : Type} (x : α × β) : ∃ m e, x = (m, e) := ⟨x.1, x.2, rfl⟩
theorem RI.less {d : Rd Cs} {k j : Nat} (h : RI d k) (hk : j ≤ k) : RI d j := ⟨h.ci, h.dom, by have := h.lost; omega, by have := h.idle; omega, by have := h.out; omega⟩
theorem ri_sets0 : ∀ (n : Nat) {d : Rd Cs} {bs : Bs}, RI d bs.length → RI (setsF opC n d bs).1 0
  | 0, d, bs, h => h.less (Nat.zero_le _)
  | n + 1, d, bs, h => by
    unfold setsF
    split
    · exact h.less (Nat.zero_le _)
    · split
      · exact h.less (Nat.zero_le _)
      · split
        · exact h.less (Nat.zero_le _)
        · split
          · exact h.less (Nat.zero_le _)
          · have h1 := h.set (j := (bs.drop (cntB bs)).length) (idB bs) ((bs.drop 4).take (cntB bs - 4)) (by simp only [List.length_take, List.length_drop]; omega)
            generalize setF opC d (idB bs) ((bs.drop 4).take (cntB bs - 4)) = q0 at *
            obtain ⟨d1, er⟩ := q0
            dsimp only at h1 ⊢
            split
            · exact h1.less (Nat.zero_le _)
            · exact ri_sets0 n h1
theorem ri_read {c : Cs} (hc : CI c) {b : Bs} (hb : b.length ≤ 1000000000) : RI (readM opC c b).1 0 := by
  unfold readM
  split
  · exact ⟨hc, by show (0 : Nat) < _; omega, by show (0 : Nat) + 0 ≤ _; omega, by show (0 : Nat) + 0 ≤ _; omega, by show (0 : Nat) + 0 ≤ _; omega⟩
  · exact ri_sets0 _ (ri_zero hc hb)

theorem spCeF (es : Es) (clk : Nat) (hc : CI ⟨false, es, clk⟩) (b : Bs) (hb : b.length ≤ 1000000000) (h0 : (readM opC (cloneS ⟨false, es, clk⟩) b).2 ≠ 0) :
    SpS 10 ⟨envL [(9, .ptr 0 0), (19, .sl (bcl b)), (28, .int .i64 (readM opC (cloneS ⟨false, es, clk⟩) b).2)], [.box 67 [.own 1], .map pk2 (ces es) clk]⟩ := by
  have qC : DCall P 8 [.ptr 0 0, .sl (bcl b)] (CHp es clk) (badV (readM opC (cloneS ⟨false, es, clk⟩) b).2) (CHp es clk) := (ipRead_ok ⟨false, es, clk⟩ hc b hb).1 h0
  have qa := alive_17
  unfold badV hv0 at qC
  generalize (readM opC (cloneS ⟨false, es, clk⟩) b).2 = er at *
  refine Sound.seq tok mixed ?_
  (conv => whnf); repeat' ((with_reducible refine Box.mk ?_) <;> conv => whnf)
  refine aW [0, 1] qC rfl rfl rfl ?_
  (conv => whnf); repeat' ((with_reducible refine Box.mk ?_) <;> conv => whnf)
  refine Sound.awp tok mixed ?_
  (conv => whnf); (repeat' ((first | (with_reducible first | refine Box.mk ?_ | refine And.intro (fun _ => ?_) (fun _ => ?_) | fail) | ((with_reducible show ACall _ _ _ _ _); refine ACall.of_pure (by assumption) (by rfl) ?_) | fail) <;> conv => whnf))
  all_goals first
    | rfl
    | exact absurd (by assumption) h0
    | (exfalso; rename_i hx; exact hx rfl)

theorem spCFF (es es1 : Es) (clk clk1 : Nat) (hc : CI ⟨false, es, clk⟩) (hp : CI ⟨false, es1, clk1⟩) (b : Bs) (hb : b.length ≤ 1000000000) (n : Rd Cs) (hn : readM opC (cloneS ⟨false, es, clk⟩) b = (n, 0)) (ou om : List Rc)
    (t0 t1 s0 s1 d0 d1 lo lo2 il il2 : Nat) (k0 : listE n.c.es = listE es1) (k1 : n.out = ou ++ om) (k2 : n.lost = lo + lo2) (k3 : n.idle = il + il2) :
    SpS 10 ⟨envL [(9, .ptr 0 0), (19, .sl (bcl b)), (22, .sl (rcl ou)), (23, .ptr 2 0), (25, .ptr 3 0), (26, .sl (rcl om)), (27, .ptr 5 0), (28, .int .i64 0)], [.box 67 [.own 1], .map pk2 (ces es) clk, hdB t0 s0 d0 lo il, .box 67 [.own 4], .map pk2 (ces es1) clk1, hdB t1 s1 d1 lo2 il2]⟩ := by
  have hr := ri_read hc.clone hb
  have qC := (ipRead_ok ⟨false, es, clk⟩ hc b hb).2 (by rw [hn])
  rw [hn] at qC hr
  obtain ⟨⟨nl2, es2, clk2⟩, t2, s2, d2, lo3, il3, o3⟩ := n
  dsimp only at k0 k1 k2 k3
  subst k1 k2 k3
  obtain ⟨hq, _, r1, r2, r3⟩ := hr
  have r3 : (ou ++ om).length + 0 ≤ 2000000000 := r3
  rw [List.length_append] at r3
  have r1 : lo + lo2 + 0 ≤ 2000000000 := r1
  have r2 : il + il2 + 0 ≤ 2000000000 := r2
  unfold goodV hvR at qC
  dsimp only at qC
  refine Sound.seq tok mixed ?_
  cases nl2
  · have qC : DCall P 8 [.ptr 0 0, .sl (bcl b)] (CHp es clk) (.tup [.ptr 2 0, .sl (rcl (ou ++ om)), .agg [.int .u32 (t2 : Int), .int .u32 (s2 : Int), .int .u32 (d2 : Int), .int .i64 ((lo + lo2 : Nat) : Int), .int .i64 ((il + il2 : Nat) : Int)], .int .i64 0]) [.box 67 [.own 1], .map pk2 (ces es) clk, .box 67 [.own 3], .map pk2 (ces es2) clk2] := qC
    (conv => whnf); repeat' ((with_reducible refine Box.mk ?_) <;> conv => whnf)
    refine aW [0, 1] qC rfl rfl rfl ?_
    (conv => whnf); repeat' ((with_reducible refine Box.mk ?_) <;> conv => whnf)
    exact Sound.weak (weak_ren_to (l := [(22, .sl (rcl ou)), (23, .ptr 0 0), (25, .ptr 1 0), (26, .sl (rcl om)), (27, .ptr 3 0), (28, .int .i64 0), (29, .ptr 4 0), (30, .sl (rcl (ou ++ om))), (31, .ptr 6 0), (32, .int .i64 0)]) [(2, true), (3, true), (4, true), (5, true), (6, true), (7, true), (8, true)] rfl rfl rfl ⟨rfl, rfl, rfl, rfl, rfl, rfl, rfl, rfl, rfl, rfl, trivial⟩) (spDFF es1 es2 clk1 clk2 hp hq k0 ou om (by omega) t0 t1 t2 s0 s1 s2 d0 d1 d2 lo lo2 il il2 (by omega) (by omega))
  · have qC : DCall P 8 [.ptr 0 0, .sl (bcl b)] (CHp es clk) (.tup [.ptr 2 0, .sl (rcl (ou ++ om)), .agg [.int .u32 (t2 : Int), .int .u32 (s2 : Int), .int .u32 (d2 : Int), .int .i64 ((lo + lo2 : Nat) : Int), .int .i64 ((il + il2 : Nat) : Int)], .int .i64 0]) [.box 67 [.own 1], .map pk2 (ces es) clk, .box 67 [.nilm]] := qC
    (conv => whnf); repeat' ((with_reducible refine Box.mk ?_) <;> conv => whnf)
    refine aW [0, 1] qC rfl rfl rfl ?_
    (conv => whnf); repeat' ((with_reducible refine Box.mk ?_) <;> conv => whnf)
    exact Sound.weak (weak_ren_to (l := [(22, .sl (rcl ou)), (23, .ptr 0 0), (25, .ptr 1 0), (26, .sl (rcl om)), (27, .ptr 3 0), (28, .int .i64 0), (29, .ptr 4 0), (30, .sl (rcl (ou ++ om))), (31, .ptr 5 0), (32, .int .i64 0)]) [(2, true), (3, true), (4, true), (5, true), (6, true), (7, true)] rfl rfl rfl ⟨rfl, rfl, rfl, rfl, rfl, rfl, rfl, rfl, rfl, rfl, trivial⟩) (spDFN es1 es2 clk1 clk2 hp hq k0 ou om (by omega) t0 t1 t2 s0 s1 s2 d0 d1 d2 lo lo2 il il2 (by omega) (by omega))

theorem spCFN (es es1 : Es) (clk clk1 : Nat) (hc : CI ⟨false, es, clk⟩) (hp : CI ⟨true, es1, clk1⟩) (b : Bs) (hb : b.length ≤ 1000000000) (n : Rd Cs) (hn : readM opC (cloneS ⟨false, es, clk⟩) b = (n, 0)) (ou om : List Rc)
    (t0 t1 s0 s1 d0 d1 lo lo2 il il2 : Nat) (k0 : listE n.c.es = listE es1) (k1 : n.out = ou ++ om) (k2 : n.lost = lo + lo2) (k3 : n.idle = il + il2) :
    SpS 10 ⟨envL [(9, .ptr 0 0), (19, .sl (bcl b)), (22, .sl (rcl ou)), (23, .ptr 2 0), (25, .ptr 3 0), (26, .sl (rcl om)), (27, .ptr 4 0), (28, .int .i64 0)], [.box 67 [.own 1], .map pk2 (ces es) clk, hdB t0 s0 d0 lo il, .box 67 [.nilm], hdB t1 s1 d1 lo2 il2]⟩ := by
  have hr := ri_read hc.clone hb
  have qC := (ipRead_ok ⟨false, es, clk⟩ hc b hb).2 (by rw [hn])
  rw [hn] at qC hr
  obtain ⟨⟨nl2, es2, clk2⟩, t2, s2, d2, lo3, il3, o3⟩ := n
  dsimp only at k0 k1 k2 k3
  subst k1 k2 k3
  obtain ⟨hq, _, r1, r2, r3⟩ := hr
  have r3 : (ou ++ om).length + 0 ≤ 2000000000 := r3
  rw [List.length_append] at r3
  have r1 : lo + lo2 + 0 ≤ 2000000000 := r1
  have r2 : il + il2 + 0 ≤ 2000000000 := r2
  unfold goodV hvR at qC
  dsimp only at qC
  refine Sound.seq tok mixed ?_
  cases nl2
  · have qC : DCall P 8 [.ptr 0 0, .sl (bcl b)] (CHp es clk) (.tup [.ptr 2 0, .sl (rcl (ou ++ om)), .agg [.int .u32 (t2 : Int), .int .u32 (s2 : Int), .int .u32 (d2 : Int), .int .i64 ((lo + lo2 : Nat) : Int), .int .i64 ((il + il2 : Nat) : Int)], .int .i64 0]) [.box 67 [.own 1], .map pk2 (ces es) clk, .box 67 [.own 3], .map pk2 (ces es2) clk2] := qC
    (conv => whnf); repeat' ((with_reducible refine Box.mk ?_) <;> conv => whnf)
    refine aW [0, 1] qC rfl rfl rfl ?_
    (conv => whnf); repeat' ((with_reducible refine Box.mk ?_) <;> conv => whnf)
    exact Sound.weak (weak_ren_to (l := [(22, .sl (rcl ou)), (23, .ptr 0 0), (25, .ptr 1 0), (26, .sl (rcl om)), (27, .ptr 2 0), (28, .int .i64 0), (29, .ptr 3 0), (30, .sl (rcl (ou ++ om))), (31, .ptr 5 0), (32, .int .i64 0)]) [(2, true), (3, true), (4, true), (5, true), (6, true), (7, true)] rfl rfl rfl ⟨rfl, rfl, rfl, rfl, rfl, rfl, rfl, rfl, rfl, rfl, trivial⟩) (spDNF es1 es2 clk1 clk2 hp hq k0 ou om (by omega) t0 t1 t2 s0 s1 s2 d0 d1 d2 lo lo2 il il2 (by omega) (by omega))
  · have qC : DCall P 8 [.ptr 0 0, .sl (bcl b)] (CHp es clk) (.tup [.ptr 2 0, .sl (rcl (ou ++ om)), .agg [.int .u32 (t2 : Int), .int .u32 (s2 : Int), .int .u32 (d2 : Int), .int .i64 ((lo + lo2 : Nat) : Int), .int .i64 ((il + il2 : Nat) : Int)], .int .i64 0]) [.box 67 [.own 1], .map pk2 (ces es) clk, .box 67 [.nilm]] := qC
    (conv => whnf); repeat' ((with_reducible refine Box.mk ?_) <;> conv => whnf)
    refine aW [0, 1] qC rfl rfl rfl ?_
    (conv => whnf); repeat' ((with_reducible refine Box.mk ?_) <;> conv => whnf)
    exact Sound.weak (weak_ren_to (l := [(22, .sl (rcl ou)), (23, .ptr 0 0), (25, .ptr 1 0), (26, .sl (rcl om)), (27, .ptr 2 0), (28, .int .i64 0), (29, .ptr 3 0), (30, .sl (rcl (ou ++ om))), (31, .ptr 4 0), (32, .int .i64 0)]) [(2, true), (3, true), (4, true), (5, true), (6, true)] rfl rfl rfl ⟨rfl, rfl, rfl, rfl, rfl, rfl, rfl, rfl, rfl, rfl, trivial⟩) (spDNN es1 es2 clk1 clk2 hp hq k0 ou om (by omega) t0 t1 t2 s0 s1 s2 d0 d1 d2 lo lo2 il il2 (by omega) (by omega))

theorem spBFF (es es0 : Es) (clk clk0 : Nat) (hc : CI ⟨false, es, clk⟩) (hd : CI ⟨false, es0, clk0⟩) (b b2 : Bs) (hb : b.length ≤ 1000000000) (hb2 : b2.length ≤ 1000000000) (m n : Rd Cs) (em en : Int) (hm : readM opC (cloneS ⟨false, es0, clk0⟩) b2 = (m, em)) (hn : readM opC (cloneS ⟨false, es, clk⟩) b = (n, en)) (ou : List Rc)
    (t0 s0 d0 lo il : Nat) (k : en = em ∧ listE n.c.es = listE m.c.es ∧ n.out = ou ++ m.out ∧ n.lost = lo + m.lost ∧ n.idle = il + m.idle) :
    SpS 9 ⟨envL [(9, .ptr 0 0), (17, .sl (bcl b2)), (19, .sl (bcl b)), (21, .ptr 2 0), (22, .sl (rcl ou)), (23, .ptr 4 0)], [.box 67 [.own 1], .map pk2 (ces es) clk, .box 67 [.own 3], .map pk2 (ces es0) clk0, hdB t0 s0 d0 lo il]⟩ := by
  obtain ⟨k0, k1, k2, k3, k4⟩ := k
  subst k0
  obtain ⟨q1, q2⟩ := ipRead_ok ⟨false, es0, clk0⟩ hd b2 hb2
  rw [hm] at q1 q2
  dsimp only at q1 q2
  have hp := (ri_read hd.clone hb2).ci
  rw [hm] at hp
  refine Sound.seq tok mixed ?_
  by_cases h0 : en = 0
  · subst h0
    have q2 := q2 rfl
    obtain ⟨⟨nl1, es1, clk1⟩, t1, s1, d1, lo2, il2, om⟩ := m
    unfold goodV hvR at q2
    dsimp only at q2 k1 k2 k3 k4 hp
    cases nl1
    · have q2 : DCall P 8 [.ptr 0 0, .sl (bcl b2)] (CHp es0 clk0) (.tup [.ptr 2 0, .sl (rcl om), .agg [.int .u32 (t1 : Int), .int .u32 (s1 : Int), .int .u32 (d1 : Int), .int .i64 (lo2 : Int), .int .i64 (il2 : Int)], .int .i64 0]) [.box 67 [.own 1], .map pk2 (ces es0) clk0, .box 67 [.own 3], .map pk2 (ces es1) clk1] := q2
      (conv => whnf); repeat' ((with_reducible refine Box.mk ?_) <;> conv => whnf)
      refine aW [2, 3] q2 rfl rfl rfl ?_
      (conv => whnf); repeat' ((with_reducible refine Box.mk ?_) <;> conv => whnf)
      exact Sound.weak (weak_ren_to (l := [(9, .ptr 0 0), (19, .sl (bcl b)), (22, .sl (rcl ou)), (23, .ptr 2 0), (25, .ptr 3 0), (26, .sl (rcl om)), (27, .ptr 5 0), (28, .int .i64 0)]) [(0, true), (1, true), (4, true), (5, true), (6, true), (7, true)] rfl rfl rfl ⟨rfl, rfl, rfl, rfl, rfl, rfl, rfl, rfl, trivial⟩) (spCFF es es1 clk clk1 hc hp b hb n hn ou om t0 t1 s0 s1 d0 d1 lo lo2 il il2 k1 k2 k3 k4)
    · have q2 : DCall P 8 [.ptr 0 0, .sl (bcl b2)] (CHp es0 clk0) (.tup [.ptr 2 0, .sl (rcl om), .agg [.int .u32 (t1 : Int), .int .u32 (s1 : Int), .int .u32 (d1 : Int), .int .i64 (lo2 : Int), .int .i64 (il2 : Int)], .int .i64 0]) [.box 67 [.own 1], .map pk2 (ces es0) clk0, .box 67 [.nilm]] := q2
      (conv => whnf); repeat' ((with_reducible refine Box.mk ?_) <;> conv => whnf)
      refine aW [2, 3] q2 rfl rfl rfl ?_
      (conv => whnf); repeat' ((with_reducible refine Box.mk ?_) <;> conv => whnf)
      exact Sound.weak (weak_ren_to (l := [(9, .ptr 0 0), (19, .sl (bcl b)), (22, .sl (rcl ou)), (23, .ptr 2 0), (25, .ptr 3 0), (26, .sl (rcl om)), (27, .ptr 4 0), (28, .int .i64 0)]) [(0, true), (1, true), (4, true), (5, true), (6, true)] rfl rfl rfl ⟨rfl, rfl, rfl, rfl, rfl, rfl, rfl, rfl, trivial⟩) (spCFN es es1 clk clk1 hc hp b hb n hn ou om t0 t1 s0 s1 d0 d1 lo lo2 il il2 k1 k2 k3 k4)
  · have q1 := q1 h0
    have h1 := spCeF es clk hc b hb (by rw [hn]; exact h0)
    rw [hn] at h1
    unfold badV hv0 at q1
    (conv => whnf); repeat' ((with_reducible refine Box.mk ?_) <;> conv => whnf)
    refine aW [2, 3] q1 rfl rfl rfl ?_
    (conv => whnf); repeat' ((with_reducible refine Box.mk ?_) <;> conv => whnf)
    exact Sound.weak (weak_ren_to (l := [(9, .ptr 0 0), (19, .sl (bcl b)), (28, .int .i64 en)]) [(0, true), (1, true)] rfl rfl rfl ⟨rfl, rfl, rfl, trivial⟩) h1

theorem spBFN (es es0 : Es) (clk clk0 : Nat) (hc : CI ⟨false, es, clk⟩) (hd : CI ⟨true, es0, clk0⟩) (b b2 : Bs) (hb : b.length ≤ 1000000000) (hb2 : b2.length ≤ 1000000000) (m n : Rd Cs) (em en : Int) (hm : readM opC (cloneS ⟨true, es0, clk0⟩) b2 = (m, em)) (hn : readM opC (cloneS ⟨false, es, clk⟩) b = (n, en)) (ou : List Rc)
    (t0 s0 d0 lo il : Nat) (k : en = em ∧ listE n.c.es = listE m.c.es ∧ n.out = ou ++ m.out ∧ n.lost = lo + m.lost ∧ n.idle = il + m.idle) :
    SpS 9 ⟨envL [(9, .ptr 0 0), (17, .sl (bcl b2)), (19, .sl (bcl b)), (21, .ptr 2 0), (22, .sl (rcl ou)), (23, .ptr 3 0)], [.box 67 [.own 1], .map pk2 (ces es) clk, .box 67 [.nilm], hdB t0 s0 d0 lo il]⟩ := by
  obtain ⟨k0, k1, k2, k3, k4⟩ := k
  subst k0
  obtain ⟨q1, q2⟩ := ipRead_ok ⟨true, es0, clk0⟩ hd b2 hb2
  rw [hm] at q1 q2
  dsimp only at q1 q2
  have hp := (ri_read hd.clone hb2).ci
  rw [hm] at hp
  refine Sound.seq tok mixed ?_
  by_cases h0 : en = 0
  · subst h0
    have q2 := q2 rfl
    obtain ⟨⟨nl1, es1, clk1⟩, t1, s1, d1, lo2, il2, om⟩ := m
    unfold goodV hvR at q2
    dsimp only at q2 k1 k2 k3 k4 hp
    cases nl1
    · have q2 : DCall P 8 [.ptr 0 0, .sl (bcl b2)] [.box 67 [.nilm]] (.tup [.ptr 1 0, .sl (rcl om), .agg [.int .u32 (t1 : Int), .int .u32 (s1 : Int), .int .u32 (d1 : Int), .int .i64 (lo2 : Int), .int .i64 (il2 : Int)], .int .i64 0]) [.box 67 [.nilm], .box 67 [.own 2], .map pk2 (ces es1) clk1] := q2
      (conv => whnf); repeat' ((with_reducible refine Box.mk ?_) <;> conv => whnf)
      refine aW [2] q2 rfl rfl rfl ?_
      (conv => whnf); repeat' ((with_reducible refine Box.mk ?_) <;> conv => whnf)
      exact Sound.weak (weak_ren_to (l := [(9, .ptr 0 0), (19, .sl (bcl b)), (22, .sl (rcl ou)), (23, .ptr 2 0), (25, .ptr 3 0), (26, .sl (rcl om)), (27, .ptr 5 0), (28, .int .i64 0)]) [(0, true), (1, true), (3, true), (4, true), (5, true), (6, true)] rfl rfl rfl ⟨rfl, rfl, rfl, rfl, rfl, rfl, rfl, rfl, trivial⟩) (spCFF es es1 clk clk1 hc hp b hb n hn ou om t0 t1 s0 s1 d0 d1 lo lo2 il il2 k1 k2 k3 k4)
    · have q2 : DCall P 8 [.ptr 0 0, .sl (bcl b2)] [.box 67 [.nilm]] (.tup [.ptr 1 0, .sl (rcl om), .agg [.int .u32 (t1 : Int), .int .u32 (s1 : Int), .int .u32 (d1 : Int), .int .i64 (lo2 : Int), .int .i64 (il2 : Int)], .int .i64 0]) [.box 67 [.nilm], .box 67 [.nilm]] := q2
      (conv => whnf); repeat' ((with_reducible refine Box.mk ?_) <;> conv => whnf)
      refine aW [2] q2 rfl rfl rfl ?_
      (conv => whnf); repeat' ((with_reducible refine Box.mk ?_) <;> conv => whnf)
      exact Sound.weak (weak_ren_to (l := [(9, .ptr 0 0), (19, .sl (bcl b)), (22, .sl (rcl ou)), (23, .ptr 2 0), (25, .ptr 3 0), (26, .sl (rcl om)), (27, .ptr 4 0), (28, .int .i64 0)]) [(0, true), (1, true), (3, true), (4, true), (5, true)] rfl rfl rfl ⟨rfl, rfl, rfl, rfl, rfl, rfl, rfl, rfl, trivial⟩) (spCFN es es1 clk clk1 hc hp b hb n hn ou om t0 t1 s0 s1 d0 d1 lo lo2 il il2 k1 k2 k3 k4)
  · have q1 := q1 h0
    have h1 := spCeF es clk hc b hb (by rw [hn]; exact h0)
    rw [hn] at h1
    unfold badV hv0 at q1
    (conv => whnf); repeat' ((with_reducible refine Box.mk ?_) <;> conv => whnf)
    refine aW [2] q1 rfl rfl rfl ?_
    (conv => whnf); repeat' ((with_reducible refine Box.mk ?_) <;> conv => whnf)
    exact Sound.weak (weak_ren_to (l := [(9, .ptr 0 0), (19, .sl (bcl b)), (28, .int .i64 en)]) [(0, true), (1, true)] rfl rfl rfl ⟨rfl, rfl, rfl, trivial⟩) h1

theorem spAnoF (es : Es) (clk : Nat) (h : Hh) (hh : HhOk h) (a b : Bs) (hno : ¬ 16 + (a ++ b).length ≤ 65535) :
    SpS 3 ⟨envL [(2, .sl (bcl a)), (3, .sl (bcl b)), (4, .ptr 0 0), (9, .ptr 1 0)], [hBox h, .box 67 [.own 2], .map pk2 (ces es) clk]⟩ := by
  have m1 : DCall P 13 [hhv h, .sl [[.sl (bcl a)]]] [] _ [] := message_all h hh [a] (by show 1 ≤ _; omega)
  have m2 : DCall P 13 [hhv h, .sl [[.sl (bcl b)]]] [] _ [] := message_all h hh [b] (by show 1 ≤ _; omega)
  have m3 : DCall P 13 [hhv h, .sl [[.sl (bcl a)], [.sl (bcl b)]]] [] _ [] := message_all h hh [a, b] (by show 2 ≤ _; omega)
  have e3 : msgE [a, b].flatten = 2 := by unfold msgE; rw [if_neg (by simpa using hno)]
  rw [e3] at m3
  have qa := alive_17
  generalize msgE [a].flatten = e1 at *
  generalize msgE [b].flatten = e2 at *
  generalize bcl (msgR h [a].flatten) = z1 at *
  generalize bcl (msgR h [b].flatten) = z2 at *
  generalize bcl (msgR h [a, b].flatten) = z3 at *
  refine Sound.seq tok mixed ?_
  (conv => whnf); repeat' ((with_reducible refine Box.mk ?_) <;> conv => whnf)
  refine ACall.freeze 3 rfl rfl ?_
  refine aW [] m1 rfl rfl rfl ?_
  (conv => whnf); repeat' ((with_reducible refine Box.mk ?_) <;> conv => whnf)
  refine Sound.seq tok mixed ?_
  (conv => whnf); repeat' ((with_reducible refine Box.mk ?_) <;> conv => whnf)
  refine ACall.freeze 4 rfl rfl ?_
  refine aW [] m2 rfl rfl rfl ?_
  (conv => whnf); repeat' ((with_reducible refine Box.mk ?_) <;> conv => whnf)
  refine Sound.seq tok mixed ?_
  (conv => whnf); repeat' ((with_reducible refine Box.mk ?_) <;> conv => whnf)
  refine ACall.freeze 5 rfl rfl ?_
  refine aW [] m3 rfl rfl rfl ?_
  (conv => whnf); repeat' ((with_reducible refine Box.mk ?_) <;> conv => whnf)
  refine Sound.seq tok mixed ?_
  (conv => whnf); (repeat' ((first | (with_reducible first | refine Box.mk ?_ | refine And.intro (fun _ => ?_) (fun _ => ?_) | fail) | ((with_reducible show ACall _ _ _ _ _); refine ACall.of_pure (by assumption) (by rfl) ?_) | fail) <;> conv => whnf))
  all_goals first
    | (exfalso; omega)
    | rfl

theorem spAF (es : Es) (clk : Nat) (hc : CI ⟨false, es, clk⟩) (h : Hh) (hh : HhOk h) (a b : Bs) (hok : 16 + (a ++ b).length ≤ 65535) :
    SpS 3 ⟨envL [(2, .sl (bcl a)), (3, .sl (bcl b)), (4, .ptr 0 0), (9, .ptr 1 0)], [hBox h, .box 67 [.own 2], .map pk2 (ces es) clk]⟩ := by
  have hab : (a ++ b).length = a.length + b.length := List.length_append
  have m1 : DCall P 13 [hhv h, .sl [[.sl (bcl a)]]] [] _ [] := message_ok h hh [a] (by show 1 ≤ _; omega) (by simp; omega)
  have m2 : DCall P 13 [hhv h, .sl [[.sl (bcl b)]]] [] _ [] := message_ok h hh [b] (by show 1 ≤ _; omega) (by simp; omega)
  have m3 : DCall P 13 [hhv h, .sl [[.sl (bcl a)], [.sl (bcl b)]]] [] _ [] := message_ok h hh [a, b] (by show 2 ≤ _; omega) (by simpa using hok)
  rw [show [a].flatten = a by simp] at m1
  rw [show [b].flatten = b by simp] at m2
  rw [show [a, b].flatten = a ++ b by simp] at m3
  have l1 := msg_len h a
  have l2 := msg_len h b
  have l3 := msg_len h (a ++ b)
  have qa := alive_17
  obtain ⟨q1, q2⟩ := ipRead_ok ⟨false, es, clk⟩ hc (msgB h a) (by omega)
  have hd := (ri_read hc.clone (b := msgB h a) (by omega)).ci
  refine Sound.seq tok mixed ?_
  (conv => whnf); repeat' ((with_reducible refine Box.mk ?_) <;> conv => whnf)
  refine ACall.freeze 3 rfl rfl ?_
  refine aW [] m1 rfl rfl rfl ?_
  (conv => whnf); repeat' ((with_reducible refine Box.mk ?_) <;> conv => whnf)
  refine Sound.seq tok mixed ?_
  (conv => whnf); repeat' ((with_reducible refine Box.mk ?_) <;> conv => whnf)
  refine ACall.freeze 4 rfl rfl ?_
  refine aW [] m2 rfl rfl rfl ?_
  (conv => whnf); repeat' ((with_reducible refine Box.mk ?_) <;> conv => whnf)
  refine Sound.seq tok mixed ?_
  (conv => whnf); repeat' ((with_reducible refine Box.mk ?_) <;> conv => whnf)
  refine ACall.freeze 5 rfl rfl ?_
  refine aW [] m3 rfl rfl rfl ?_
  (conv => whnf); repeat' ((with_reducible refine Box.mk ?_) <;> conv => whnf)
  refine Sound.seq tok mixed ?_
  (conv => whnf); (repeat' ((first | (with_reducible first | refine Box.mk ?_ | refine And.intro (fun _ => ?_) (fun _ => ?_) | fail) | ((with_reducible show ACall _ _ _ _ _); refine ACall.of_pure (by assumption) (by rfl) ?_) | fail) <;> conv => whnf))
  all_goals try (exfalso; rename_i hx; exact hx rfl)
  refine Sound.seq tok mixed ?_
  by_cases h0 : (readM opC (cloneS ⟨false, es, clk⟩) (msgB h a)).2 = 0
  · have q2 := q2 h0
    obtain ⟨mm, em, hm⟩ : ∃ mm em, readM opC (cloneS (readM opC (cloneS ⟨false, es, clk⟩) (msgB h a)).1.c) (msgB h b) = (mm, em) := ex_pair _
    obtain ⟨nn, en, hn⟩ : ∃ nn en, readM opC (cloneS ⟨false, es, clk⟩) (msgB h (a ++ b)) = (nn, en) := ex_pair _
    have hs := split_says hc hh hok h0 rfl hm hn
    generalize (readM opC (cloneS ⟨false, es, clk⟩) (msgB h a)).1 = d at *
    obtain ⟨⟨nl0, es0, clk0⟩, t0, s0, d0, lo, il, ou⟩ := d
    unfold goodV hvR at q2
    dsimp only at q2 hm hs hd
    cases nl0
    · have q2 : DCall P 8 [.ptr 0 0, .sl (bcl (msgB h a))] (CHp es clk) (.tup [.ptr 2 0, .sl (rcl ou), .agg [.int .u32 (t0 : Int), .int .u32 (s0 : Int), .int .u32 (d0 : Int), .int .i64 (lo : Int), .int .i64 (il : Int)], .int .i64 0]) [.box 67 [.own 1], .map pk2 (ces es) clk, .box 67 [.own 3], .map pk2 (ces es0) clk0] := q2
      (conv => whnf); repeat' ((with_reducible refine Box.mk ?_) <;> conv => whnf)
      refine aW [1, 2] q2 rfl rfl rfl ?_
      (conv => whnf); repeat' ((with_reducible refine Box.mk ?_) <;> conv => whnf)
      refine Sound.seq tok mixed ?_
      (conv => whnf); (repeat' ((first | (with_reducible first | refine Box.mk ?_ | refine And.intro (fun _ => ?_) (fun _ => ?_) | fail) | ((with_reducible show ACall _ _ _ _ _); refine ACall.of_pure (by assumption) (by rfl) ?_) | fail) <;> conv => whnf))
      all_goals try (exfalso; rename_i hx; exact hx rfl)
      exact Sound.weak (weak_ren_to (l := [(9, .ptr 0 0), (17, .sl (bcl (msgB h b))), (19, .sl (bcl (msgB h (a ++ b)))), (21, .ptr 2 0), (22, .sl (rcl ou)), (23, .ptr 4 0)]) [(1, true), (2, true), (6, true), (7, true), (8, true)] rfl rfl rfl ⟨rfl, rfl, rfl, rfl, rfl, rfl, trivial⟩) (spBFF es es0 clk clk0 hc hd _ _ (by omega) (by omega) mm nn em en hm hn ou t0 s0 d0 lo il hs)
    · have q2 : DCall P 8 [.ptr 0 0, .sl (bcl (msgB h a))] (CHp es clk) (.tup [.ptr 2 0, .sl (rcl ou), .agg [.int .u32 (t0 : Int), .int .u32 (s0 : Int), .int .u32 (d0 : Int), .int .i64 (lo : Int), .int .i64 (il : Int)], .int .i64 0]) [.box 67 [.own 1], .map pk2 (ces es) clk, .box 67 [.nilm]] := q2
      (conv => whnf); repeat' ((with_reducible refine Box.mk ?_) <;> conv => whnf)
      refine aW [1, 2] q2 rfl rfl rfl ?_
      (conv => whnf); repeat' ((with_reducible refine Box.mk ?_) <;> conv => whnf)
      refine Sound.seq tok mixed ?_
      (conv => whnf); (repeat' ((first | (with_reducible first | refine Box.mk ?_ | refine And.intro (fun _ => ?_) (fun _ => ?_) | fail) | ((with_reducible show ACall _ _ _ _ _); refine ACall.of_pure (by assumption) (by rfl) ?_) | fail) <;> conv => whnf))
      all_goals try (exfalso; rename_i hx; exact hx rfl)
      exact Sound.weak (weak_ren_to (l := [(9, .ptr 0 0), (17, .sl (bcl (msgB h b))), (19, .sl (bcl (msgB h (a ++ b)))), (21, .ptr 2 0), (22, .sl (rcl ou)), (23, .ptr 3 0)]) [(1, true), (2, true), (6, true), (7, true)] rfl rfl rfl ⟨rfl, rfl, rfl, rfl, rfl, rfl, trivial⟩) (spBFN es es0 clk clk0 hc hd _ _ (by omega) (by omega) mm nn em en hm hn ou t0 s0 d0 lo il hs)
  · have q1 := q1 h0
    unfold badV hv0 at q1
    generalize (readM opC (cloneS ⟨false, es, clk⟩) (msgB h a)).2 = er at *
    (conv => whnf); repeat' ((with_reducible refine Box.mk ?_) <;> conv => whnf)
    refine aW [1, 2] q1 rfl rfl rfl ?_
    (conv => whnf); repeat' ((with_reducible refine Box.mk ?_) <;> conv => whnf)
    refine Sound.seq tok mixed ?_
    (conv => whnf); (repeat' ((first | (with_reducible first | refine Box.mk ?_ | refine And.intro (fun _ => ?_) (fun _ => ?_) | fail) | ((with_reducible show ACall _ _ _ _ _); refine ACall.of_pure (by assumption) (by rfl) ?_) | fail) <;> conv => whnf))
    all_goals first
      | exact absurd (by assumption) h0
      | rfl

theorem spCeN (es : Es) (clk : Nat) (hc : CI ⟨true, es, clk⟩) (b : Bs) (hb : b.length ≤ 1000000000) (h0 : (readM opC (cloneS ⟨true, es, clk⟩) b).2 ≠ 0) :
    SpS 10 ⟨envL [(9, .ptr 0 0), (19, .sl (bcl b)), (28, .int .i64 (readM opC (cloneS ⟨true, es, clk⟩) b).2)], [.box 67 [.nilm]]⟩ := by
  have qC : DCall P 8 [.ptr 0 0, .sl (bcl b)] [.box 67 [.nilm]] (badV (readM opC (cloneS ⟨true, es, clk⟩) b).2) [.box 67 [.nilm]] := (ipRead_ok ⟨true, es, clk⟩ hc b hb).1 h0
  have qa := alive_17
  unfold badV hv0 at qC
  generalize (readM opC (cloneS ⟨true, es, clk⟩) b).2 = er at *
  refine Sound.seq tok mixed ?_
  (conv => whnf); repeat' ((with_reducible refine Box.mk ?_) <;> conv => whnf)
  refine aW [0] qC rfl rfl rfl ?_
  (conv => whnf); repeat' ((with_reducible refine Box.mk ?_) <;> conv => whnf)
  refine Sound.awp tok mixed ?_
  (conv => whnf); (repeat' ((first | (with_reducible first | refine Box.mk ?_ | refine And.intro (fun _ => ?_) (fun _ => ?_) | fail) | ((with_reducible show ACall _ _ _ _ _); refine ACall.of_pure (by assumption) (by rfl) ?_) | fail) <;> conv => whnf))
  all_goals first
    | rfl
    | exact absurd (by assumption) h0
    | (exfalso; rename_i hx; exact hx rfl)

theorem spCNF (es es1 : Es) (clk clk1 : Nat) (hc : CI ⟨true, es, clk⟩) (hp : CI ⟨false, es1, clk1⟩) (b : Bs) (hb : b.length ≤ 1000000000) (n : Rd Cs) (hn : readM opC (cloneS ⟨true, es, clk⟩) b = (n, 0)) (ou om : List Rc)
    (t0 t1 s0 s1 d0 d1 lo lo2 il il2 : Nat) (k0 : listE n.c.es = listE es1) (k1 : n.out = ou ++ om) (k2 : n.lost = lo + lo2) (k3 : n.idle = il + il2) :
    SpS 10 ⟨envL [(9, .ptr 0 0), (19, .sl (bcl b)), (22, .sl (rcl ou)), (23, .ptr 1 0), (25, .ptr 2 0), (26, .sl (rcl om)), (27, .ptr 4 0), (28, .int .i64 0)], [.box 67 [.nilm], hdB t0 s0 d0 lo il, .box 67 [.own 3], .map pk2 (ces es1) clk1, hdB t1 s1 d1 lo2 il2]⟩ := by
  have hr := ri_read hc.clone hb
  have qC := (ipRead_ok ⟨true, es, clk⟩ hc b hb).2 (by rw [hn])
  rw [hn] at qC hr
  obtain ⟨⟨nl2, es2, clk2⟩, t2, s2, d2, lo3, il3, o3⟩ := n
  dsimp only at k0 k1 k2 k3
  subst k1 k2 k3
  obtain ⟨hq, _, r1, r2, r3⟩ := hr
  have r3 : (ou ++ om).length + 0 ≤ 2000000000 := r3
  rw [List.length_append] at r3
  have r1 : lo + lo2 + 0 ≤ 2000000000 := r1
  have r2 : il + il2 + 0 ≤ 2000000000 := r2
  unfold goodV hvR at qC
  dsimp only at qC
  refine Sound.seq tok mixed ?_
  cases nl2
  · have qC : DCall P 8 [.ptr 0 0, .sl (bcl b)] [.box 67 [.nilm]] (.tup [.ptr 1 0, .sl (rcl (ou ++ om)), .agg [.int .u32 (t2 : Int), .int .u32 (s2 : Int), .int .u32 (d2 : Int), .int .i64 ((lo + lo2 : Nat) : Int), .int .i64 ((il + il2 : Nat) : Int)], .int .i64 0]) [.box 67 [.nilm], .box 67 [.own 2], .map pk2 (ces es2) clk2] := qC
    (conv => whnf); repeat' ((with_reducible refine Box.mk ?_) <;> conv => whnf)
    refine aW [0] qC rfl rfl rfl ?_
    (conv => whnf); repeat' ((with_reducible refine Box.mk ?_) <;> conv => whnf)
    exact Sound.weak (weak_ren_to (l := [(22, .sl (rcl ou)), (23, .ptr 0 0), (25, .ptr 1 0), (26, .sl (rcl om)), (27, .ptr 3 0), (28, .int .i64 0), (29, .ptr 4 0), (30, .sl (rcl (ou ++ om))), (31, .ptr 6 0), (32, .int .i64 0)]) [(1, true), (2, true), (3, true), (4, true), (5, true), (6, true), (7, true)] rfl rfl rfl ⟨rfl, rfl, rfl, rfl, rfl, rfl, rfl, rfl, rfl, rfl, trivial⟩) (spDFF es1 es2 clk1 clk2 hp hq k0 ou om (by omega) t0 t1 t2 s0 s1 s2 d0 d1 d2 lo lo2 il il2 (by omega) (by omega))
  · have qC : DCall P 8 [.ptr 0 0, .sl (bcl b)] [.box 67 [.nilm]] (.tup [.ptr 1 0, .sl (rcl (ou ++ om)), .agg [.int .u32 (t2 : Int), .int .u32 (s2 : Int), .int .u32 (d2 : Int), .int .i64 ((lo + lo2 : Nat) : Int), .int .i64 ((il + il2 : Nat) : Int)], .int .i64 0]) [.box 67 [.nilm], .box 67 [.nilm]] := qC
    (conv => whnf); repeat' ((with_reducible refine Box.mk ?_) <;> conv => whnf)
    refine aW [0] qC rfl rfl rfl ?_
    (conv => whnf); repeat' ((with_reducible refine Box.mk ?_) <;> conv => whnf)
    exact Sound.weak (weak_ren_to (l := [(22, .sl (rcl ou)), (23, .ptr 0 0), (25, .ptr 1 0), (26, .sl (rcl om)), (27, .ptr 3 0), (28, .int .i64 0), (29, .ptr 4 0), (30, .sl (rcl (ou ++ om))), (31, .ptr 5 0), (32, .int .i64 0)]) [(1, true), (2, true), (3, true), (4, true), (5, true), (6, true)] rfl rfl rfl ⟨rfl, rfl, rfl, rfl, rfl, rfl, rfl, rfl, rfl, rfl, trivial⟩) (spDFN es1 es2 clk1 clk2 hp hq k0 ou om (by omega) t0 t1 t2 s0 s1 s2 d0 d1 d2 lo lo2 il il2 (by omega) (by omega))

theorem spCNN (es es1 : Es) (clk clk1 : Nat) (hc : CI ⟨true, es, clk⟩) (hp : CI ⟨true, es1, clk1⟩) (b : Bs) (hb : b.length ≤ 1000000000) (n : Rd Cs) (hn : readM opC (cloneS ⟨true, es, clk⟩) b = (n, 0)) (ou om : List Rc)
    (t0 t1 s0 s1 d0 d1 lo lo2 il il2 : Nat) (k0 : listE n.c.es = listE es1) (k1 : n.out = ou ++ om) (k2 : n.lost = lo + lo2) (k3 : n.idle = il + il2) :
    SpS 10 ⟨envL [(9, .ptr 0 0), (19, .sl (bcl b)), (22, .sl (rcl ou)), (23, .ptr 1 0), (25, .ptr 2 0), (26, .sl (rcl om)), (27, .ptr 3 0), (28, .int .i64 0)], [.box 67 [.nilm], hdB t0 s0 d0 lo il, .box 67 [.nilm], hdB t1 s1 d1 lo2 il2]⟩ := by
  have hr := ri_read hc.clone hb
  have qC := (ipRead_ok ⟨true, es, clk⟩ hc b hb).2 (by rw [hn])
  rw [hn] at qC hr
  obtain ⟨⟨nl2, es2, clk2⟩, t2, s2, d2, lo3, il3, o3⟩ := n
  dsimp only at k0 k1 k2 k3
  subst k1 k2 k3
  obtain ⟨hq, _, r1, r2, r3⟩ := hr
  have r3 : (ou ++ om).length + 0 ≤ 2000000000 := r3
  rw [List.length_append] at r3
  have r1 : lo + lo2 + 0 ≤ 2000000000 := r1
  have r2 : il + il2 + 0 ≤ 2000000000 := r2
  unfold goodV hvR at qC
  dsimp only at qC
  refine Sound.seq tok mixed ?_
  cases nl2
  · have qC : DCall P 8 [.ptr 0 0, .sl (bcl b)] [.box 67 [.nilm]] (.tup [.ptr 1 0, .sl (rcl (ou ++ om)), .agg [.int .u32 (t2 : Int), .int .u32 (s2 : Int), .int .u32 (d2 : Int), .int .i64 ((lo + lo2 : Nat) : Int), .int .i64 ((il + il2 : Nat) : Int)], .int .i64 0]) [.box 67 [.nilm], .box 67 [.own 2], .map pk2 (ces es2) clk2] := qC
    (conv => whnf); repeat' ((with_reducible refine Box.mk ?_) <;> conv => whnf)
    refine aW [0] qC rfl rfl rfl ?_
    (conv => whnf); repeat' ((with_reducible refine Box.mk ?_) <;> conv => whnf)
    exact Sound.weak (weak_ren_to (l := [(22, .sl (rcl ou)), (23, .ptr 0 0), (25, .ptr 1 0), (26, .sl (rcl om)), (27, .ptr 2 0), (28, .int .i64 0), (29, .ptr 3 0), (30, .sl (rcl (ou ++ om))), (31, .ptr 5 0), (32, .int .i64 0)]) [(1, true), (2, true), (3, true), (4, true), (5, true), (6, true)] rfl rfl rfl ⟨rfl, rfl, rfl, rfl, rfl, rfl, rfl, rfl, rfl, rfl, trivial⟩) (spDNF es1 es2 clk1 clk2 hp hq k0 ou om (by omega) t0 t1 t2 s0 s1 s2 d0 d1 d2 lo lo2 il il2 (by omega) (by omega))
  · have qC : DCall P 8 [.ptr 0 0, .sl (bcl b)] [.box 67 [.nilm]] (.tup [.ptr 1 0, .sl (rcl (ou ++ om)), .agg [.int .u32 (t2 : Int), .int .u32 (s2 : Int), .int .u32 (d2 : Int), .int .i64 ((lo + lo2 : Nat) : Int), .int .i64 ((il + il2 : Nat) : Int)], .int .i64 0]) [.box 67 [.nilm], .box 67 [.nilm]] := qC
    (conv => whnf); repeat' ((with_reducible refine Box.mk ?_) <;> conv => whnf)
    refine aW [0] qC rfl rfl rfl ?_
    (conv => whnf); repeat' ((with_reducible refine Box.mk ?_) <;> conv => whnf)
    exact Sound.weak (weak_ren_to (l := [(22, .sl (rcl ou)), (23, .ptr 0 0), (25, .ptr 1 0), (26, .sl (rcl om)), (27, .ptr 2 0), (28, .int .i64 0), (29, .ptr 3 0), (30, .sl (rcl (ou ++ om))), (31, .ptr 4 0), (32, .int .i64 0)]) [(1, true), (2, true), (3, true), (4, true), (5, true)] rfl rfl rfl ⟨rfl, rfl, rfl, rfl, rfl, rfl, rfl, rfl, rfl, rfl, trivial⟩) (spDNN es1 es2 clk1 clk2 hp hq k0 ou om (by omega) t0 t1 t2 s0 s1 s2 d0 d1 d2 lo lo2 il il2 (by omega) (by omega))

theorem spBNF (es es0 : Es) (clk clk0 : Nat) (hc : CI ⟨true, es, clk⟩) (hd : CI ⟨false, es0, clk0⟩) (b b2 : Bs) (hb : b.length ≤ 1000000000) (hb2 : b2.length ≤ 1000000000) (m n : Rd Cs) (em en : Int) (hm : readM opC (cloneS ⟨false, es0, clk0⟩) b2 = (m, em)) (hn : readM opC (cloneS ⟨true, es, clk⟩) b = (n, en)) (ou : List Rc)
    (t0 s0 d0 lo il : Nat) (k : en = em ∧ listE n.c.es = listE m.c.es ∧ n.out = ou ++ m.out ∧ n.lost = lo + m.lost ∧ n.idle = il + m.idle) :
    SpS 9 ⟨envL [(9, .ptr 0 0), (17, .sl (bcl b2)), (19, .sl (bcl b)), (21, .ptr 1 0), (22, .sl (rcl ou)), (23, .ptr 3 0)], [.box 67 [.nilm], .box 67 [.own 2], .map pk2 (ces es0) clk0, hdB t0 s0 d0 lo il]⟩ := by
  obtain ⟨k0, k1, k2, k3, k4⟩ := k
  subst k0
  obtain ⟨q1, q2⟩ := ipRead_ok ⟨false, es0, clk0⟩ hd b2 hb2
  rw [hm] at q1 q2
  dsimp only at q1 q2
  have hp := (ri_read hd.clone hb2).ci
  rw [hm] at hp
  refine Sound.seq tok mixed ?_
  by_cases h0 : en = 0
  · subst h0
    have q2 := q2 rfl
    obtain ⟨⟨nl1, es1, clk1⟩, t1, s1, d1, lo2, il2, om⟩ := m
    unfold goodV hvR at q2
    dsimp only at q2 k1 k2 k3 k4 hp
    cases nl1
    · have q2 : DCall P 8 [.ptr 0 0, .sl (bcl b2)] (CHp es0 clk0) (.tup [.ptr 2 0, .sl (rcl om), .agg [.int .u32 (t1 : Int), .int .u32 (s1 : Int), .int .u32 (d1 : Int), .int .i64 (lo2 : Int), .int .i64 (il2 : Int)], .int .i64 0]) [.box 67 [.own 1], .map pk2 (ces es0) clk0, .box 67 [.own 3], .map pk2 (ces es1) clk1] := q2
      (conv => whnf); repeat' ((with_reducible refine Box.mk ?_) <;> conv => whnf)
      refine aW [1, 2] q2 rfl rfl rfl ?_
      (conv => whnf); repeat' ((with_reducible refine Box.mk ?_) <;> conv => whnf)
      exact Sound.weak (weak_ren_to (l := [(9, .ptr 0 0), (19, .sl (bcl b)), (22, .sl (rcl ou)), (23, .ptr 1 0), (25, .ptr 2 0), (26, .sl (rcl om)), (27, .ptr 4 0), (28, .int .i64 0)]) [(0, true), (3, true), (4, true), (5, true), (6, true)] rfl rfl rfl ⟨rfl, rfl, rfl, rfl, rfl, rfl, rfl, rfl, trivial⟩) (spCNF es es1 clk clk1 hc hp b hb n hn ou om t0 t1 s0 s1 d0 d1 lo lo2 il il2 k1 k2 k3 k4)
    · have q2 : DCall P 8 [.ptr 0 0, .sl (bcl b2)] (CHp es0 clk0) (.tup [.ptr 2 0, .sl (rcl om), .agg [.int .u32 (t1 : Int), .int .u32 (s1 : Int), .int .u32 (d1 : Int), .int .i64 (lo2 : Int), .int .i64 (il2 : Int)], .int .i64 0]) [.box 67 [.own 1], .map pk2 (ces es0) clk0, .box 67 [.nilm]] := q2
      (conv => whnf); repeat' ((with_reducible refine Box.mk ?_) <;> conv => whnf)
      refine aW [1, 2] q2 rfl rfl rfl ?_
      (conv => whnf); repeat' ((with_reducible refine Box.mk ?_) <;> conv => whnf)
      exact Sound.weak (weak_ren_to (l := [(9, .ptr 0 0), (19, .sl (bcl b)), (22, .sl (rcl ou)), (23, .ptr 1 0), (25, .ptr 2 0), (26, .sl (rcl om)), (27, .ptr 3 0), (28, .int .i64 0)]) [(0, true), (3, true), (4, true), (5, true)] rfl rfl rfl ⟨rfl, rfl, rfl, rfl, rfl, rfl, rfl, rfl, trivial⟩) (spCNN es es1 clk clk1 hc hp b hb n hn ou om t0 t1 s0 s1 d0 d1 lo lo2 il il2 k1 k2 k3 k4)
  · have q1 := q1 h0
    have h1 := spCeN es clk hc b hb (by rw [hn]; exact h0)
    rw [hn] at h1
    unfold badV hv0 at q1
    (conv => whnf); repeat' ((with_reducible refine Box.mk ?_) <;> conv => whnf)
    refine aW [1, 2] q1 rfl rfl rfl ?_
    (conv => whnf); repeat' ((with_reducible refine Box.mk ?_) <;> conv => whnf)
    exact Sound.weak (weak_ren_to (l := [(9, .ptr 0 0), (19, .sl (bcl b)), (28, .int .i64 en)]) [(0, true)] rfl rfl rfl ⟨rfl, rfl, rfl, trivial⟩) h1

theorem spBNN (es es0 : Es) (clk clk0 : Nat) (hc : CI ⟨true, es, clk⟩) (hd : CI ⟨true, es0, clk0⟩) (b b2 : Bs) (hb : b.length ≤ 1000000000) (hb2 : b2.length ≤ 1000000000) (m n : Rd Cs) (em en : Int) (hm : readM opC (cloneS ⟨true, es0, clk0⟩) b2 = (m, em)) (hn : readM opC (cloneS ⟨true, es, clk⟩) b = (n, en)) (ou : List Rc)
    (t0 s0 d0 lo il : Nat) (k : en = em ∧ listE n.c.es = listE m.c.es ∧ n.out = ou ++ m.out ∧ n.lost = lo + m.lost ∧ n.idle = il + m.idle) :
    SpS 9 ⟨envL [(9, .ptr 0 0), (17, .sl (bcl b2)), (19, .sl (bcl b)), (21, .ptr 1 0), (22, .sl (rcl ou)), (23, .ptr 2 0)], [.box 67 [.nilm], .box 67 [.nilm], hdB t0 s0 d0 lo il]⟩ := by
  obtain ⟨k0, k1, k2, k3, k4⟩ := k
  subst k0
  obtain ⟨q1, q2⟩ := ipRead_ok ⟨true, es0, clk0⟩ hd b2 hb2
  rw [hm] at q1 q2
  dsimp only at q1 q2
  have hp := (ri_read hd.clone hb2).ci
  rw [hm] at hp
  refine Sound.seq tok mixed ?_
  by_cases h0 : en = 0
  · subst h0
    have q2 := q2 rfl
    obtain ⟨⟨nl1, es1, clk1⟩, t1, s1, d1, lo2, il2, om⟩ := m
    unfold goodV hvR at q2
    dsimp only at q2 k1 k2 k3 k4 hp
    cases nl1
    · have q2 : DCall P 8 [.ptr 0 0, .sl (bcl b2)] [.box 67 [.nilm]] (.tup [.ptr 1 0, .sl (rcl om), .agg [.int .u32 (t1 : Int), .int .u32 (s1 : Int), .int .u32 (d1 : Int), .int .i64 (lo2 : Int), .int .i64 (il2 : Int)], .int .i64 0]) [.box 67 [.nilm], .box 67 [.own 2], .map pk2 (ces es1) clk1] := q2
      (conv => whnf); repeat' ((with_reducible refine Box.mk ?_) <;> conv => whnf)
      refine aW [1] q2 rfl rfl rfl ?_
      (conv => whnf); repeat' ((with_reducible refine Box.mk ?_) <;> conv => whnf)
      exact Sound.weak (weak_ren_to (l := [(9, .ptr 0 0), (19, .sl (bcl b)), (22, .sl (rcl ou)), (23, .ptr 1 0), (25, .ptr 2 0), (26, .sl (rcl om)), (27, .ptr 4 0), (28, .int .i64 0)]) [(0, true), (2, true), (3, true), (4, true), (5, true)] rfl rfl rfl ⟨rfl, rfl, rfl, rfl, rfl, rfl, rfl, rfl, trivial⟩) (spCNF es es1 clk clk1 hc hp b hb n hn ou om t0 t1 s0 s1 d0 d1 lo lo2 il il2 k1 k2 k3 k4)
    · have q2 : DCall P 8 [.ptr 0 0, .sl (bcl b2)] [.box 67 [.nilm]] (.tup [.ptr 1 0, .sl (rcl om), .agg [.int .u32 (t1 : Int), .int .u32 (s1 : Int), .int .u32 (d1 : Int), .int .i64 (lo2 : Int), .int .i64 (il2 : Int)], .int .i64 0]) [.box 67 [.nilm], .box 67 [.nilm]] := q2
      (conv => whnf); repeat' ((with_reducible refine Box.mk ?_) <;> conv => whnf)
      refine aW [1] q2 rfl rfl rfl ?_
      (conv => whnf); repeat' ((with_reducible refine Box.mk ?_) <;> conv => whnf)
      exact Sound.weak (weak_ren_to (l := [(9, .ptr 0 0), (19, .sl (bcl b)), (22, .sl (rcl ou)), (23, .ptr 1 0), (25, .ptr 2 0), (26, .sl (rcl om)), (27, .ptr 3 0), (28, .int .i64 0)]) [(0, true), (2, true), (3, true), (4, true)] rfl rfl rfl ⟨rfl, rfl, rfl, rfl, rfl, rfl, rfl, rfl, trivial⟩) (spCNN es es1 clk clk1 hc hp b hb n hn ou om t0 t1 s0 s1 d0 d1 lo lo2 il il2 k1 k2 k3 k4)
  · have q1 := q1 h0
    have h1 := spCeN es clk hc b hb (by rw [hn]; exact h0)
    rw [hn] at h1
    unfold badV hv0 at q1
    (conv => whnf); repeat' ((with_reducible refine Box.mk ?_) <;> conv => whnf)
    refine aW [1] q1 rfl rfl rfl ?_
    (conv => whnf); repeat' ((with_reducible refine Box.mk ?_) <;> conv => whnf)
    exact Sound.weak (weak_ren_to (l := [(9, .ptr 0 0), (19, .sl (bcl b)), (28, .int .i64 en)]) [(0, true)] rfl rfl rfl ⟨rfl, rfl, rfl, trivial⟩) h1

theorem spAnoN (h : Hh) (hh : HhOk h) (a b : Bs) (hno : ¬ 16 + (a ++ b).length ≤ 65535) :
    SpS 3 ⟨envL [(2, .sl (bcl a)), (3, .sl (bcl b)), (4, .ptr 0 0), (9, .ptr 1 0)], [hBox h, .box 67 [.nilm]]⟩ := by
  have m1 : DCall P 13 [hhv h, .sl [[.sl (bcl a)]]] [] _ [] := message_all h hh [a] (by show 1 ≤ _; omega)
  have m2 : DCall P 13 [hhv h, .sl [[.sl (bcl b)]]] [] _ [] := message_all h hh [b] (by show 1 ≤ _; omega)
  have m3 : DCall P 13 [hhv h, .sl [[.sl (bcl a)], [.sl (bcl b)]]] [] _ [] := message_all h hh [a, b] (by show 2 ≤ _; omega)
  have e3 : msgE [a, b].flatten = 2 := by unfold msgE; rw [if_neg (by simpa using hno)]
  rw [e3] at m3
  have qa := alive_17
  generalize msgE [a].flatten = e1 at *
  generalize msgE [b].flatten = e2 at *
  generalize bcl (msgR h [a].flatten) = z1 at *
  generalize bcl (msgR h [b].flatten) = z2 at *
  generalize bcl (msgR h [a, b].flatten) = z3 at *
  refine Sound.seq tok mixed ?_
  (conv => whnf); repeat' ((with_reducible refine Box.mk ?_) <;> conv => whnf)
  refine ACall.freeze 2 rfl rfl ?_
  refine aW [] m1 rfl rfl rfl ?_
  (conv => whnf); repeat' ((with_reducible refine Box.mk ?_) <;> conv => whnf)
  refine Sound.seq tok mixed ?_
  (conv => whnf); repeat' ((with_reducible refine Box.mk ?_) <;> conv => whnf)
  refine ACall.freeze 3 rfl rfl ?_
  refine aW [] m2 rfl rfl rfl ?_
  (conv => whnf); repeat' ((with_reducible refine Box.mk ?_) <;> conv => whnf)
  refine Sound.seq tok mixed ?_
  (conv => whnf); repeat' ((with_reducible refine Box.mk ?_) <;> conv => whnf)
  refine ACall.freeze 4 rfl rfl ?_
  refine aW [] m3 rfl rfl rfl ?_
  (conv => whnf); repeat' ((with_reducible refine Box.mk ?_) <;> conv => whnf)
  refine Sound.seq tok mixed ?_
  (conv => whnf); (repeat' ((first | (with_reducible first | refine Box.mk ?_ | refine And.intro (fun _ => ?_) (fun _ => ?_) | fail) | ((with_reducible show ACall _ _ _ _ _); refine ACall.of_pure (by assumption) (by rfl) ?_) | fail) <;> conv => whnf))
  all_goals first
    | (exfalso; omega)
    | rfl

theorem spAN (es : Es) (clk : Nat) (hc : CI ⟨true, es, clk⟩) (h : Hh) (hh : HhOk h) (a b : Bs) (hok : 16 + (a ++ b).length ≤ 65535) :
    SpS 3 ⟨envL [(2, .sl (bcl a)), (3, .sl (bcl b)), (4, .ptr 0 0), (9, .ptr 1 0)], [hBox h, .box 67 [.nilm]]⟩ := by
  have hab : (a ++ b).length = a.length + b.length := List.length_append
  have m1 : DCall P 13 [hhv h, .sl [[.sl (bcl a)]]] [] _ [] := message_ok h hh [a] (by show 1 ≤ _; omega) (by simp; omega)
  have m2 : DCall P 13 [hhv h, .sl [[.sl (bcl b)]]] [] _ [] := message_ok h hh [b] (by show 1 ≤ _; omega) (by simp; omega)
  have m3 : DCall P 13 [hhv h, .sl [[.sl (bcl a)], [.sl (bcl b)]]] [] _ [] := message_ok h hh [a, b] (by show 2 ≤ _; omega) (by simpa using hok)
  rw [show [a].flatten = a by simp] at m1
  rw [show [b].flatten = b by simp] at m2
  rw [show [a, b].flatten = a ++ b by simp] at m3
  have l1 := msg_len h a
  have l2 := msg_len h b
  have l3 := msg_len h (a ++ b)
  have qa := alive_17
  obtain ⟨q1, q2⟩ := ipRead_ok ⟨true, es, clk⟩ hc (msgB h a) (by omega)
  have hd := (ri_read hc.clone (b := msgB h a) (by omega)).ci
  refine Sound.seq tok mixed ?_
  (conv => whnf); repeat' ((with_reducible refine Box.mk ?_) <;> conv => whnf)
  refine ACall.freeze 2 rfl rfl ?_
  refine aW [] m1 rfl rfl rfl ?_
  (conv => whnf); repeat' ((with_reducible refine Box.mk ?_) <;> conv => whnf)
  refine Sound.seq tok mixed ?_
  (conv => whnf); repeat' ((with_reducible refine Box.mk ?_) <;> conv => whnf)
  refine ACall.freeze 3 rfl rfl ?_
  refine aW [] m2 rfl rfl rfl ?_
  (conv => whnf); repeat' ((with_reducible refine Box.mk ?_) <;> conv => whnf)
  refine Sound.seq tok mixed ?_
  (conv => whnf); repeat' ((with_reducible refine Box.mk ?_) <;> conv => whnf)
  refine ACall.freeze 4 rfl rfl ?_
  refine aW [] m3 rfl rfl rfl ?_
  (conv => whnf); repeat' ((with_reducible refine Box.mk ?_) <;> conv => whnf)
  refine Sound.seq tok mixed ?_
  (conv => whnf); (repeat' ((first | (with_reducible first | refine Box.mk ?_ | refine And.intro (fun _ => ?_) (fun _ => ?_) | fail) | ((with_reducible show ACall _ _ _ _ _); refine ACall.of_pure (by assumption) (by rfl) ?_) | fail) <;> conv => whnf))
  all_goals try (exfalso; rename_i hx; exact hx rfl)
  refine Sound.seq tok mixed ?_
  by_cases h0 : (readM opC (cloneS ⟨true, es, clk⟩) (msgB h a)).2 = 0
  · have q2 := q2 h0
    obtain ⟨mm, em, hm⟩ : ∃ mm em, readM opC (cloneS (readM opC (cloneS ⟨true, es, clk⟩) (msgB h a)).1.c) (msgB h b) = (mm, em) := ex_pair _
    obtain ⟨nn, en, hn⟩ : ∃ nn en, readM opC (cloneS ⟨true, es, clk⟩) (msgB h (a ++ b)) = (nn, en) := ex_pair _
    have hs := split_says hc hh hok h0 rfl hm hn
    generalize (readM opC (cloneS ⟨true, es, clk⟩) (msgB h a)).1 = d at *
    obtain ⟨⟨nl0, es0, clk0⟩, t0, s0, d0, lo, il, ou⟩ := d
    unfold goodV hvR at q2
    dsimp only at q2 hm hs hd
    cases nl0
    · have q2 : DCall P 8 [.ptr 0 0, .sl (bcl (msgB h a))] [.box 67 [.nilm]] (.tup [.ptr 1 0, .sl (rcl ou), .agg [.int .u32 (t0 : Int), .int .u32 (s0 : Int), .int .u32 (d0 : Int), .int .i64 (lo : Int), .int .i64 (il : Int)], .int .i64 0]) [.box 67 [.nilm], .box 67 [.own 2], .map pk2 (ces es0) clk0] := q2
      (conv => whnf); repeat' ((with_reducible refine Box.mk ?_) <;> conv => whnf)
      refine aW [1] q2 rfl rfl rfl ?_
      (conv => whnf); repeat' ((with_reducible refine Box.mk ?_) <;> conv => whnf)
      refine Sound.seq tok mixed ?_
      (conv => whnf); (repeat' ((first | (with_reducible first | refine Box.mk ?_ | refine And.intro (fun _ => ?_) (fun _ => ?_) | fail) | ((with_reducible show ACall _ _ _ _ _); refine ACall.of_pure (by assumption) (by rfl) ?_) | fail) <;> conv => whnf))
      all_goals try (exfalso; rename_i hx; exact hx rfl)
      exact Sound.weak (weak_ren_to (l := [(9, .ptr 0 0), (17, .sl (bcl (msgB h b))), (19, .sl (bcl (msgB h (a ++ b)))), (21, .ptr 1 0), (22, .sl (rcl ou)), (23, .ptr 3 0)]) [(1, true), (5, true), (6, true), (7, true)] rfl rfl rfl ⟨rfl, rfl, rfl, rfl, rfl, rfl, trivial⟩) (spBNF es es0 clk clk0 hc hd _ _ (by omega) (by omega) mm nn em en hm hn ou t0 s0 d0 lo il hs)
    · have q2 : DCall P 8 [.ptr 0 0, .sl (bcl (msgB h a))] [.box 67 [.nilm]] (.tup [.ptr 1 0, .sl (rcl ou), .agg [.int .u32 (t0 : Int), .int .u32 (s0 : Int), .int .u32 (d0 : Int), .int .i64 (lo : Int), .int .i64 (il : Int)], .int .i64 0]) [.box 67 [.nilm], .box 67 [.nilm]] := q2
      (conv => whnf); repeat' ((with_reducible refine Box.mk ?_) <;> conv => whnf)
      refine aW [1] q2 rfl rfl rfl ?_
      (conv => whnf); repeat' ((with_reducible refine Box.mk ?_) <;> conv => whnf)
      refine Sound.seq tok mixed ?_
      (conv => whnf); (repeat' ((first | (with_reducible first | refine Box.mk ?_ | refine And.intro (fun _ => ?_) (fun _ => ?_) | fail) | ((with_reducible show ACall _ _ _ _ _); refine ACall.of_pure (by assumption) (by rfl) ?_) | fail) <;> conv => whnf))
      all_goals try (exfalso; rename_i hx; exact hx rfl)
      exact Sound.weak (weak_ren_to (l := [(9, .ptr 0 0), (17, .sl (bcl (msgB h b))), (19, .sl (bcl (msgB h (a ++ b)))), (21, .ptr 1 0), (22, .sl (rcl ou)), (23, .ptr 2 0)]) [(1, true), (5, true), (6, true)] rfl rfl rfl ⟨rfl, rfl, rfl, rfl, rfl, rfl, trivial⟩) (spBNN es es0 clk clk0 hc hd _ _ (by omega) (by omega) mm nn em en hm hn ou t0 s0 d0 lo il hs)
  · have q1 := q1 h0
    unfold badV hv0 at q1
    generalize (readM opC (cloneS ⟨true, es, clk⟩) (msgB h a)).2 = er at *
    (conv => whnf); repeat' ((with_reducible refine Box.mk ?_) <;> conv => whnf)
    refine aW [1] q1 rfl rfl rfl ?_
    (conv => whnf); repeat' ((with_reducible refine Box.mk ?_) <;> conv => whnf)
    refine Sound.seq tok mixed ?_
    (conv => whnf); (repeat' ((first | (with_reducible first | refine Box.mk ?_ | refine And.intro (fun _ => ?_) (fun _ => ?_) | fail) | ((with_reducible show ACall _ _ _ _ _); refine ACall.of_pure (by assumption) (by rfl) ?_) | fail) <;> conv => whnf))
    all_goals first
      | exact absurd (by assumption) h0
      | rfl
end Go.Proofs.YtnajpmepcffnaaaGreatDoor
end

section
/- law17: IpfixSplits. -/
namespace Go.Proofs.YtnajpmepcffnaaaGreatDoor
open Go.Ve
attribute [local irreducible] Sound

theorem spRest (c : Cs) (hc : CI c) (h : Hh) (hh : HhOk h) (a b : Bs) :
    SpS 3 ⟨envL [(2, .sl (bcl a)), (3, .sl (bcl b)), (4, .ptr 0 0), (9, .ptr 1 0)], hBox h :: cHat 1 c⟩ := by
  obtain ⟨nl, es, clk⟩ := c
  by_cases hok : 16 + (a ++ b).length ≤ 65535
  · cases nl
    · exact spAF es clk hc h hh a b hok
    · exact spAN es clk hc h hh a b hok
  · cases nl
    · exact spAnoF es clk h hh a b hok
    · exact spAnoN h hh a b hok
theorem IpfixSplits_run (h : Hh) (hh : HhOk h) (had : List Bs) (hs : ∀ x ∈ had, x.length ≤ 1048576) (a b : Bs) :
    PCall P 5 [hhv h, .sl (bll had), .sl (bcl a), .sl (bcl b)] (.bool true) := by
  have qC := cnew_ok
  have hbl := bll_len had
  refine PCall.of_sound tok mixed fn5 (Nat.le_of_ble_eq_true rfl) ?_
  refine Sound.seq tok mixed ?_
  (conv => whnf); repeat' ((with_reducible refine Box.mk ?_) <;> conv => whnf)
  refine Sound.seq tok mixed ?_
  (conv => whnf); (repeat' ((with_reducible first | refine Box.mk ?_ | refine And.intro (fun _ => ?_) (fun _ => ?_) | refine (forceH_eq _ _).mpr ?_ | fail) <;> conv => whnf))
  refine aW [] qC rfl rfl rfl ?_
  (conv => whnf); repeat' ((with_reducible refine Box.mk ?_) <;> conv => whnf)
  refine Sound.seq tok mixed ?_
  (conv => whnf); repeat' ((with_reducible refine Box.mk ?_) <;> conv => whnf)
  refine aloop (fun x : Nat × Cs => x.1 ≤ had.length ∧ x.1 ≤ 10 ∧ CI x.2) (fun x => ⟨envL [(1, .sl (bll had)), (2, .sl (bcl a)), (3, .sl (bcl b)), (4, .ptr 0 0), (9, .ptr 1 0), (10, .int .i64 (x.1 : Int))], hBox h :: cHat 1 x.2⟩) (fun x => had.length - x.1) (0, newS) ⟨Nat.zero_le _, Nat.zero_le _, CI.new⟩ (weak_ren_to [(0, true), (1, true)] rfl rfl rfl ⟨rfl, rfl, rfl, rfl, rfl, rfl, trivial⟩) ?_
  rintro ⟨i, c⟩ ⟨hi, h10, hc⟩
  dsimp only at hi h10 hc ⊢
  by_cases hlt : i < had.length ∧ i < 10
  · have hx := List.getElem?_eq_getElem hlt.1
    have hxl := hs _ (List.mem_of_getElem? hx)
    generalize had[i] = m at *
    have hg := bll_get hx
    obtain ⟨q1, q2⟩ := ipRead_ok c hc m (by omega)
    have hd := (ri_read hc.clone (b := m) (by omega)).ci
    generalize readM opC (cloneS c) m = z at *
    obtain ⟨⟨⟨nl2, es2, clk2⟩, ti, sq, dm, lo, il, ou⟩, er⟩ := z
    dsimp only at q1 q2 hd
    obtain ⟨nl, es, clk⟩ := c
    by_cases h0 : er = 0
    · have q2 := q2 h0
      unfold goodV hvR at q2
      dsimp only at q2
      cases nl
      · cases nl2
        · have q2 : DCall P _ _ [.box 67 [.own 1], .map pk2 (ces es) clk] _ [.box 67 [.own 1], .map pk2 (ces es) clk, .box 67 [.own 3], .map pk2 (ces es2) clk2] := q2
          (conv => whnf); (repeat' ((with_reducible first | refine Box.mk ?_ | refine And.intro (fun _ => ?_) (fun _ => ?_) | fail) <;> conv => whnf))
          all_goals try (exfalso; omega)
          refine ⟨by omega, _, hg, rfl, ?_⟩
          (conv => whnf); repeat' ((with_reducible refine Box.mk ?_) <;> conv => whnf)
          refine aW [1, 2] q2 rfl rfl rfl ?_
          (conv => whnf); (repeat' ((with_reducible first | refine Box.mk ?_ | refine And.intro (fun _ => ?_) (fun _ => ?_) | fail) <;> conv => whnf))
          all_goals try exact absurd rfl (by assumption)
          exact ⟨(i + 1, ⟨false, es2, clk2⟩), ⟨hlt.1, hlt.2, hd⟩, by show had.length - (i + 1) < had.length - i; omega, weak_ren_to [(0, true), (3, true), (4, true)] rfl rfl rfl ⟨rfl, rfl, rfl, rfl, rfl, wrap_nat (m := 1) (by omega), trivial⟩⟩
        · have q2 : DCall P _ _ [.box 67 [.own 1], .map pk2 (ces es) clk] _ [.box 67 [.own 1], .map pk2 (ces es) clk, .box 67 [.nilm]] := q2
          (conv => whnf); (repeat' ((with_reducible first | refine Box.mk ?_ | refine And.intro (fun _ => ?_) (fun _ => ?_) | fail) <;> conv => whnf))
          all_goals try (exfalso; omega)
          refine ⟨by omega, _, hg, rfl, ?_⟩
          (conv => whnf); repeat' ((with_reducible refine Box.mk ?_) <;> conv => whnf)
          refine aW [1, 2] q2 rfl rfl rfl ?_
          (conv => whnf); (repeat' ((with_reducible first | refine Box.mk ?_ | refine And.intro (fun _ => ?_) (fun _ => ?_) | fail) <;> conv => whnf))
          all_goals try exact absurd rfl (by assumption)
          exact ⟨(i + 1, ⟨true, es2, clk2⟩), ⟨hlt.1, hlt.2, hd⟩, by show had.length - (i + 1) < had.length - i; omega, weak_ren_to [(0, true), (3, true)] rfl rfl rfl ⟨rfl, rfl, rfl, rfl, rfl, wrap_nat (m := 1) (by omega), trivial⟩⟩
      · cases nl2
        · have q2 : DCall P _ _ [.box 67 [.nilm]] _ [.box 67 [.nilm], .box 67 [.own 2], .map pk2 (ces es2) clk2] := q2
          (conv => whnf); (repeat' ((with_reducible first | refine Box.mk ?_ | refine And.intro (fun _ => ?_) (fun _ => ?_) | fail) <;> conv => whnf))
          all_goals try (exfalso; omega)
          refine ⟨by omega, _, hg, rfl, ?_⟩
          (conv => whnf); repeat' ((with_reducible refine Box.mk ?_) <;> conv => whnf)
          refine aW [1] q2 rfl rfl rfl ?_
          (conv => whnf); (repeat' ((with_reducible first | refine Box.mk ?_ | refine And.intro (fun _ => ?_) (fun _ => ?_) | fail) <;> conv => whnf))
          all_goals try exact absurd rfl (by assumption)
          exact ⟨(i + 1, ⟨false, es2, clk2⟩), ⟨hlt.1, hlt.2, hd⟩, by show had.length - (i + 1) < had.length - i; omega, weak_ren_to [(0, true), (2, true), (3, true)] rfl rfl rfl ⟨rfl, rfl, rfl, rfl, rfl, wrap_nat (m := 1) (by omega), trivial⟩⟩
        · have q2 : DCall P _ _ [.box 67 [.nilm]] _ [.box 67 [.nilm], .box 67 [.nilm]] := q2
          (conv => whnf); (repeat' ((with_reducible first | refine Box.mk ?_ | refine And.intro (fun _ => ?_) (fun _ => ?_) | fail) <;> conv => whnf))
          all_goals try (exfalso; omega)
          refine ⟨by omega, _, hg, rfl, ?_⟩
          (conv => whnf); repeat' ((with_reducible refine Box.mk ?_) <;> conv => whnf)
          refine aW [1] q2 rfl rfl rfl ?_
          (conv => whnf); (repeat' ((with_reducible first | refine Box.mk ?_ | refine And.intro (fun _ => ?_) (fun _ => ?_) | fail) <;> conv => whnf))
          all_goals try exact absurd rfl (by assumption)
          exact ⟨(i + 1, ⟨true, es2, clk2⟩), ⟨hlt.1, hlt.2, hd⟩, by show had.length - (i + 1) < had.length - i; omega, weak_ren_to [(0, true), (2, true)] rfl rfl rfl ⟨rfl, rfl, rfl, rfl, rfl, wrap_nat (m := 1) (by omega), trivial⟩⟩
    · have q1 := q1 h0
      unfold badV hv0 at q1
      cases nl
      · have q1 : DCall P _ _ (CHp es clk) _ (CHp es clk) := q1
        (conv => whnf); (repeat' ((with_reducible first | refine Box.mk ?_ | refine And.intro (fun _ => ?_) (fun _ => ?_) | fail) <;> conv => whnf))
        all_goals try (exfalso; omega)
        refine ⟨by omega, _, hg, rfl, ?_⟩
        (conv => whnf); repeat' ((with_reducible refine Box.mk ?_) <;> conv => whnf)
        refine aW [1, 2] q1 rfl rfl rfl ?_
        (conv => whnf); (repeat' ((with_reducible first | refine Box.mk ?_ | refine And.intro (fun _ => ?_) (fun _ => ?_) | fail) <;> conv => whnf))
        all_goals try exact absurd (by assumption) h0
        exact ⟨(i + 1, ⟨false, es, clk⟩), ⟨hlt.1, hlt.2, hc⟩, by show had.length - (i + 1) < had.length - i; omega, weak_ren_to [(0, true), (1, true), (2, true)] rfl rfl rfl ⟨rfl, rfl, rfl, rfl, rfl, wrap_nat (m := 1) (by omega), trivial⟩⟩
      · have q1 : DCall P _ _ [.box 67 [.nilm]] _ [.box 67 [.nilm]] := q1
        (conv => whnf); (repeat' ((with_reducible first | refine Box.mk ?_ | refine And.intro (fun _ => ?_) (fun _ => ?_) | fail) <;> conv => whnf))
        all_goals try (exfalso; omega)
        refine ⟨by omega, _, hg, rfl, ?_⟩
        (conv => whnf); repeat' ((with_reducible refine Box.mk ?_) <;> conv => whnf)
        refine aW [1] q1 rfl rfl rfl ?_
        (conv => whnf); (repeat' ((with_reducible first | refine Box.mk ?_ | refine And.intro (fun _ => ?_) (fun _ => ?_) | fail) <;> conv => whnf))
        all_goals try exact absurd (by assumption) h0
        exact ⟨(i + 1, ⟨true, es, clk⟩), ⟨hlt.1, hlt.2, hc⟩, by show had.length - (i + 1) < had.length - i; omega, weak_ren_to [(0, true), (1, true)] rfl rfl rfl ⟨rfl, rfl, rfl, rfl, rfl, wrap_nat (m := 1) (by omega), trivial⟩⟩
  · have hr := spRest c hc h hh a b
    obtain ⟨nl, es, clk⟩ := c
    cases nl
    · have hr : SpS 3 ⟨envL [(2, .sl (bcl a)), (3, .sl (bcl b)), (4, .ptr 0 0), (9, .ptr 1 0)], [hBox h, .box 67 [.own 2], .map pk2 (ces es) clk]⟩ := hr
      (conv => whnf); (repeat' ((with_reducible first | refine Box.mk ?_ | refine And.intro (fun _ => ?_) (fun _ => ?_) | fail) <;> conv => whnf))
      all_goals try (exfalso; omega)
      all_goals exact Sound.weak (weak_ren_to (l := [(2, .sl (bcl a)), (3, .sl (bcl b)), (4, .ptr 0 0), (9, .ptr 1 0)]) [(0, true), (1, true), (2, true)] rfl rfl rfl ⟨rfl, rfl, rfl, rfl, trivial⟩) hr
    · have hr : SpS 3 ⟨envL [(2, .sl (bcl a)), (3, .sl (bcl b)), (4, .ptr 0 0), (9, .ptr 1 0)], [hBox h, .box 67 [.nilm]]⟩ := hr
      (conv => whnf); (repeat' ((with_reducible first | refine Box.mk ?_ | refine And.intro (fun _ => ?_) (fun _ => ?_) | fail) <;> conv => whnf))
      all_goals try (exfalso; omega)
      all_goals exact Sound.weak (weak_ren_to (l := [(2, .sl (bcl a)), (3, .sl (bcl b)), (4, .ptr 0 0), (9, .ptr 1 0)]) [(0, true), (1, true)] rfl rfl rfl ⟨rfl, rfl, rfl, rfl, trivial⟩) hr
end Go.Proofs.YtnajpmepcffnaaaGreatDoor
end

section
/- Arguments: nil lists, and nil lists within lists, as empty ones. -/
namespace Go.Ve

theorem nlN_cell {x : AV} (h : isCell x = true) : isCell (nlN x) = true := by
  cases x <;> first | exact h | rfl
def nl2 : AV → AV
  | .nils => .sl []
  | .sl es => .sl (es.map (List.map nlN))
  | x => x
theorem nl2_rv [Dr] {K : Addr → Value → Prop} {σ : List Value} {x : AV} {v : Value} (h : Rv K σ x v) : Rv K σ (nl2 x) v := by
  cases h with
  | nils => exact .sl0 _
  | sl0 => exact .sl0 _
  | sl _ es a cap sz val hcap hlen hsz hv hK =>
    have hl : (es.map (List.map nlN)).length = es.length := List.length_map _
    have := Rv.sl (K := K) σ (es.map (List.map nlN)) a cap sz val (by rw [hl]; exact hcap) (by rw [hl]; exact hlen) (fun c hc => by
      obtain ⟨d, hd, rfl⟩ := List.mem_map.1 hc
      obtain ⟨h1, h2⟩ := hsz d hd
      refine ⟨by rw [List.length_map]; exact h1, List.all_eq_true.2 fun y hy => ?_⟩
      obtain ⟨z, hz, rfl⟩ := List.mem_map.1 hy
      exact nlN_cell (List.all_eq_true.1 h2 z hz)) (fun i j c x hc hx => by
      rw [List.getElem?_map, Option.map_eq_some_iff] at hc
      obtain ⟨d, hd, rfl⟩ := hc
      rw [List.getElem?_map, Option.map_eq_some_iff] at hx
      obtain ⟨z, hz, rfl⟩ := hx
      exact nlN_rv (fun _ _ h => h) (hv i j d z hd hz)) (fun i j hi hj => hK i j (by rw [hl] at hi; exact hi) hj)
    rw [hl] at this
    exact this
  | int _ k n => exact .int _ _ _
  | bool _ b => exact .bool _ _
  | str _ s => exact .str _ _
  | undef _ v => exact .undef _ _
  | und => exact .und _
  | own _ id v h1 h2 => exact .own _ _ _ h1 h2
  | cptr _ cs a val h1 h2 h3 => exact .cptr _ _ _ _ h1 h2 h3
  | ptr _ id off b h => exact .ptr _ _ _ _ h
  | eptr _ id i sz off g n cap h => exact .eptr _ _ _ _ _ _ _ _ h
  | asl _ id off n b cap hc h => exact .asl _ _ _ _ _ _ hc h
  | vw _ id n cap a h => exact .vw _ _ _ _ _ h
  | nilp => exact .nilp _
  | agg _ cs vs h1 h2 h3 => exact .agg _ _ _ h1 h2 h3
  | tup _ cs vs h1 h2 => exact .tup _ _ _ h1 h2
  | fn _ f cs vs h1 h2 => exact .fn _ _ _ _ h1 h2
  | bfn _ f cs vs h1 h2 h3 => exact .bfn _ _ _ _ h1 h2 h3
  | nilf => exact .nilf _
  | nili => exact .nili _
  | nilm => exact .nilm _
  | ifc _ t x v h => exact .ifc _ _ _ _ h
def nl2L : List AV → List AV
  | [] => []
  | x :: xs => nl2 x :: nl2L xs
theorem nl2L_len : ∀ (l : List AV), (nl2L l).length = l.length
  | [] => rfl
  | x :: xs => by simp [nl2L, nl2L_len xs]
theorem nl2L_get : ∀ {l : List AV} {j : Nat} {y : AV}, (nl2L l)[j]? = some y → ∃ x, l[j]? = some x ∧ y = nl2 x
  | [], j, y, h => by simp [nl2L] at h
  | x :: xs, 0, y, h => by simp [nl2L] at h; exact ⟨x, rfl, h.symm⟩
  | x :: xs, j + 1, y, h => by simp [nl2L] at h; simpa using nl2L_get h
theorem PCall.nils2 [Dr] {P : Program} {f : FuncId} {args : List AV} {r : AV} (h : PCall P f (nl2L args) r) : PCall P f args r := by
  unfold PCall at *
  refine ⟨h.1, fun M0 w vs h1 h2 hv => h.2 M0 w vs h1 h2 ⟨by rw [nl2L_len]; exact hv.1, fun i y hy => ?_⟩⟩
  obtain ⟨x, hx, rfl⟩ := nl2L_get hy
  exact nl2_rv (hv.2 i x hx)
end Go.Ve
end

section
/- law17: arguments read as data: bytes, lists of bytes, a head. -/
namespace Go.Proofs.YtnajpmepcffnaaaGreatDoor
open Go.Ve

theorem u32_lit18 {n : Int} (h : (Lit.int .u32 n).wf = true) : ∃ m : Nat, n = m ∧ m < 4294967296 := by
  have h2 : (0 : Int) ≤ n ∧ n ≤ 4294967295 := by
    have := h
    simp [Lit.wf] at this
    rw [show IntKind.u32.min = 0 from rfl, show IntKind.u32.max = 4294967295 from rfl] at this
    exact this
  exact ⟨n.toNat, by omega, by omega⟩
theorem bytes_inv18 {B : Nat} : ∀ (es : List (List AV)), (∀ c ∈ es, Wf ty B 5 c) → ∃ l : Bs, es = bcl l
  | [], _ => ⟨[], rfl⟩
  | c :: r, h => by
    obtain ⟨l, hl⟩ := bytes_inv18 r fun c hc => h c (List.mem_cons_of_mem _ hc)
    obtain ⟨n, rfl, hw⟩ := (h c List.mem_cons_self).int_inv (k := .u8) rfl
    have h2 : (0 : Int) ≤ n ∧ n ≤ 255 := by
      have := hw
      simp [Lit.wf] at this
      rw [show IntKind.u8.min = 0 from rfl, show IntKind.u8.max = 255 from rfl] at this
      exact this
    refine ⟨UInt8.ofNat n.toNat :: l, ?_⟩
    have e : ((UInt8.ofNat n.toNat).toNat : Int) = n := by
      show (((n.toNat % 256 : Nat)) : Int) = n
      omega
    rw [hl]
    show _ = [AV.int .u8 ((UInt8.ofNat n.toNat).toNat : Int)] :: bcl l
    rw [e]
theorem bcl_nl (l : Bs) : (bcl l).map (List.map nlN) = bcl l := by
  unfold bcl
  rw [List.map_map]
  exact List.map_congr_left fun c _ => rfl
theorem bs_inv18 {B : Nat} {x : AV} (h : WfV ty B 33 x) : ∃ l : Bs, nl2 x = .sl (bcl l) ∧ l.length ≤ B := by
  rcases h.slice_inv rfl with rfl | ⟨es, rfl, hl, he⟩
  · exact ⟨[], rfl, Nat.zero_le _⟩
  · obtain ⟨l, rfl⟩ := bytes_inv18 es he
    exact ⟨l, congrArg AV.sl (bcl_nl l), by rw [bcl_len] at hl; exact hl⟩
theorem bsc_inv18 {B : Nat} : ∀ (es : List (List AV)), (∀ c ∈ es, Wf ty B 33 c) → ∃ l : List Bs, es.map (List.map nlN) = bll l ∧ l.length = es.length ∧ ∀ x ∈ l, x.length ≤ B
  | [], _ => ⟨[], rfl, rfl, fun x hx => by cases hx⟩
  | c :: r, h => by
    obtain ⟨l, h1, h2, h3⟩ := bsc_inv18 r fun c hc => h c (List.mem_cons_of_mem _ hc)
    rcases (h c List.mem_cons_self).slice_inv rfl with rfl | ⟨es, rfl, hl, he⟩
    · refine ⟨[] :: l, ?_, by rw [List.length_cons, List.length_cons, h2], fun x hx => ?_⟩
      · rw [List.map_cons, h1]; rfl
      · rcases List.mem_cons.1 hx with rfl | hx
        · exact Nat.zero_le _
        · exact h3 x hx
    · obtain ⟨b, rfl⟩ := bytes_inv18 es he
      refine ⟨b :: l, ?_, by rw [List.length_cons, List.length_cons, h2], fun x hx => ?_⟩
      · rw [List.map_cons, h1]; rfl
      · rcases List.mem_cons.1 hx with rfl | hx
        · rw [bcl_len] at hl; exact hl
        · exact h3 x hx
theorem bsl_inv18 {B : Nat} {x : AV} (h : WfV ty B 22 x) : ∃ l : List Bs, nl2 x = .sl (bll l) ∧ l.length ≤ B ∧ ∀ y ∈ l, y.length ≤ B := by
  rcases h.slice_inv rfl with rfl | ⟨es, rfl, hl, he⟩
  · exact ⟨[], rfl, Nat.zero_le _, fun y hy => by cases hy⟩
  · obtain ⟨l, h1, h2, h3⟩ := bsc_inv18 es he
    exact ⟨l, congrArg AV.sl h1, by omega, h3⟩
theorem head_inv18 {B : Nat} {x : AV} (h : WfV ty B 29 x) : ∃ a : Hh, x = hhv a ∧ HhOk a := by
  obtain ⟨xs, rfl, h0⟩ := h.struct_inv rfl
  obtain ⟨x1, r1, rfl, g1, h1⟩ := h0.cons_inv
  obtain ⟨x2, r2, rfl, g2, h2⟩ := h1.cons_inv
  obtain ⟨x3, r3, rfl, g3, h3⟩ := h2.cons_inv
  obtain ⟨x4, r4, rfl, g4, h4⟩ := h3.cons_inv
  obtain ⟨x5, r5, rfl, g5, h5⟩ := h4.cons_inv
  obtain rfl := h5.nil_inv
  obtain ⟨n1, rfl, k1⟩ := g1.int_inv rfl
  obtain ⟨n2, rfl, k2⟩ := g2.int_inv rfl
  obtain ⟨n3, rfl, k3⟩ := g3.int_inv rfl
  obtain ⟨n4, rfl, _⟩ := g4.int_inv rfl
  obtain ⟨n5, rfl, _⟩ := g5.int_inv rfl
  obtain ⟨m1, rfl, v1⟩ := u32_lit18 k1
  obtain ⟨m2, rfl, v2⟩ := u32_lit18 k2
  obtain ⟨m3, rfl, v3⟩ := u32_lit18 k3
  exact ⟨⟨m1, m2, m3, n4, n5⟩, rfl, v1, v2, v3⟩
end Go.Proofs.YtnajpmepcffnaaaGreatDoor
end

section
/- law17: IpfixSplits, arguments read as data. -/
namespace Go.Proofs.YtnajpmepcffnaaaGreatDoor
open Go.Ve

theorem IpfixSplits_args (xs : List AV) (h : WfA ty 1048576 [29, 22, 33, 33] xs) : PCall P 5 xs (.bool true) := by
  obtain ⟨y1, r1, rfl, g1, h1⟩ := h.cons_inv
  obtain ⟨y2, r2, rfl, g2, h2⟩ := h1.cons_inv
  obtain ⟨y3, r3, rfl, g3, h3⟩ := h2.cons_inv
  obtain ⟨y4, r4, rfl, g4, h4⟩ := h3.cons_inv
  obtain rfl := h4.nil_inv
  obtain ⟨a, rfl, ha⟩ := head_inv18 g1
  obtain ⟨l, el, _, hs⟩ := bsl_inv18 g2
  obtain ⟨b, eb, _⟩ := bs_inv18 g3
  obtain ⟨v, ev, _⟩ := bs_inv18 g4
  refine PCall.nils2 ?_
  show PCall P _ [hhv a, nl2 y2, nl2 y3, nl2 y4] _
  rw [el, eb, ev]
  exact IpfixSplits_run a ha l hs b v
end Go.Proofs.YtnajpmepcffnaaaGreatDoor
end
