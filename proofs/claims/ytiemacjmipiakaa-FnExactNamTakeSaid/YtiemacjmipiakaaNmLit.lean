/- Long frames, written out. -/
import Derived.Test.YtiemacjmipiakaaOp
namespace Go.Proofs.Ytiemacjmipiakaa.Nm
open Go.RowKit Go.Proofs.Ytiemacjmipiakaa.Hw
set_option linter.unusedVariables false
set_option linter.unusedSimpArgs false
theorem cons_of {α : Type} {n : Nat} {l : List α} (h : l.length = n + 1) : ∃ x l', l = x :: l' ∧ l'.length = n := by
  match l, h with
  | x :: l', h => exact ⟨x, l', rfl, by simpa using h⟩
set_option maxRecDepth 4000 in
/-- An array of 18 values, written out. -/
theorem lit18 (t : Array Value) (h : t.size = 18) : ∃ x0 x1 x2 x3 x4 x5 x6 x7 x8 x9 x10 x11 x12 x13 x14 x15 x16 x17, t = List.toArray (x0 :: x1 :: x2 :: x3 :: x4 :: x5 :: x6 :: x7 :: x8 :: x9 :: x10 :: x11 :: x12 :: x13 :: x14 :: x15 :: x16 :: x17 :: []) := by
  rcases t with ⟨l⟩
  simp only [List.size_toArray] at h
  obtain ⟨x0, l1, e, h1⟩ := cons_of h
  subst e
  clear h
  obtain ⟨x1, l2, e, h2⟩ := cons_of h1
  subst e
  clear h1
  obtain ⟨x2, l3, e, h3⟩ := cons_of h2
  subst e
  clear h2
  obtain ⟨x3, l4, e, h4⟩ := cons_of h3
  subst e
  clear h3
  obtain ⟨x4, l5, e, h5⟩ := cons_of h4
  subst e
  clear h4
  obtain ⟨x5, l6, e, h6⟩ := cons_of h5
  subst e
  clear h5
  obtain ⟨x6, l7, e, h7⟩ := cons_of h6
  subst e
  clear h6
  obtain ⟨x7, l8, e, h8⟩ := cons_of h7
  subst e
  clear h7
  obtain ⟨x8, l9, e, h9⟩ := cons_of h8
  subst e
  clear h8
  obtain ⟨x9, l10, e, h10⟩ := cons_of h9
  subst e
  clear h9
  obtain ⟨x10, l11, e, h11⟩ := cons_of h10
  subst e
  clear h10
  obtain ⟨x11, l12, e, h12⟩ := cons_of h11
  subst e
  clear h11
  obtain ⟨x12, l13, e, h13⟩ := cons_of h12
  subst e
  clear h12
  obtain ⟨x13, l14, e, h14⟩ := cons_of h13
  subst e
  clear h13
  obtain ⟨x14, l15, e, h15⟩ := cons_of h14
  subst e
  clear h14
  obtain ⟨x15, l16, e, h16⟩ := cons_of h15
  subst e
  clear h15
  obtain ⟨x16, l17, e, h17⟩ := cons_of h16
  subst e
  clear h16
  obtain ⟨x17, l18, e, h18⟩ := cons_of h17
  subst e
  clear h17
  obtain rfl := List.length_eq_zero_iff.1 h18
  exact ⟨x0, x1, x2, x3, x4, x5, x6, x7, x8, x9, x10, x11, x12, x13, x14, x15, x16, x17, rfl⟩
set_option maxRecDepth 4000 in
/-- An array of 41 values, written out. -/
theorem lit41 (t : Array Value) (h : t.size = 41) : ∃ x0 x1 x2 x3 x4 x5 x6 x7 x8 x9 x10 x11 x12 x13 x14 x15 x16 x17 x18 x19 x20 x21 x22 x23 x24 x25 x26 x27 x28 x29 x30 x31 x32 x33 x34 x35 x36 x37 x38 x39 x40, t = List.toArray (x0 :: x1 :: x2 :: x3 :: x4 :: x5 :: x6 :: x7 :: x8 :: x9 :: x10 :: x11 :: x12 :: x13 :: x14 :: x15 :: x16 :: x17 :: x18 :: x19 :: x20 :: x21 :: x22 :: x23 :: x24 :: x25 :: x26 :: x27 :: x28 :: x29 :: x30 :: x31 :: x32 :: x33 :: x34 :: x35 :: x36 :: x37 :: x38 :: x39 :: x40 :: []) := by
  rcases t with ⟨l⟩
  simp only [List.size_toArray] at h
  obtain ⟨x0, l1, e, h1⟩ := cons_of h
  subst e
  clear h
  obtain ⟨x1, l2, e, h2⟩ := cons_of h1
  subst e
  clear h1
  obtain ⟨x2, l3, e, h3⟩ := cons_of h2
  subst e
  clear h2
  obtain ⟨x3, l4, e, h4⟩ := cons_of h3
  subst e
  clear h3
  obtain ⟨x4, l5, e, h5⟩ := cons_of h4
  subst e
  clear h4
  obtain ⟨x5, l6, e, h6⟩ := cons_of h5
  subst e
  clear h5
  obtain ⟨x6, l7, e, h7⟩ := cons_of h6
  subst e
  clear h6
  obtain ⟨x7, l8, e, h8⟩ := cons_of h7
  subst e
  clear h7
  obtain ⟨x8, l9, e, h9⟩ := cons_of h8
  subst e
  clear h8
  obtain ⟨x9, l10, e, h10⟩ := cons_of h9
  subst e
  clear h9
  obtain ⟨x10, l11, e, h11⟩ := cons_of h10
  subst e
  clear h10
  obtain ⟨x11, l12, e, h12⟩ := cons_of h11
  subst e
  clear h11
  obtain ⟨x12, l13, e, h13⟩ := cons_of h12
  subst e
  clear h12
  obtain ⟨x13, l14, e, h14⟩ := cons_of h13
  subst e
  clear h13
  obtain ⟨x14, l15, e, h15⟩ := cons_of h14
  subst e
  clear h14
  obtain ⟨x15, l16, e, h16⟩ := cons_of h15
  subst e
  clear h15
  obtain ⟨x16, l17, e, h17⟩ := cons_of h16
  subst e
  clear h16
  obtain ⟨x17, l18, e, h18⟩ := cons_of h17
  subst e
  clear h17
  obtain ⟨x18, l19, e, h19⟩ := cons_of h18
  subst e
  clear h18
  obtain ⟨x19, l20, e, h20⟩ := cons_of h19
  subst e
  clear h19
  obtain ⟨x20, l21, e, h21⟩ := cons_of h20
  subst e
  clear h20
  obtain ⟨x21, l22, e, h22⟩ := cons_of h21
  subst e
  clear h21
  obtain ⟨x22, l23, e, h23⟩ := cons_of h22
  subst e
  clear h22
  obtain ⟨x23, l24, e, h24⟩ := cons_of h23
  subst e
  clear h23
  obtain ⟨x24, l25, e, h25⟩ := cons_of h24
  subst e
  clear h24
  obtain ⟨x25, l26, e, h26⟩ := cons_of h25
  subst e
  clear h25
  obtain ⟨x26, l27, e, h27⟩ := cons_of h26
  subst e
  clear h26
  obtain ⟨x27, l28, e, h28⟩ := cons_of h27
  subst e
  clear h27
  obtain ⟨x28, l29, e, h29⟩ := cons_of h28
  subst e
  clear h28
  obtain ⟨x29, l30, e, h30⟩ := cons_of h29
  subst e
  clear h29
  obtain ⟨x30, l31, e, h31⟩ := cons_of h30
  subst e
  clear h30
  obtain ⟨x31, l32, e, h32⟩ := cons_of h31
  subst e
  clear h31
  obtain ⟨x32, l33, e, h33⟩ := cons_of h32
  subst e
  clear h32
  obtain ⟨x33, l34, e, h34⟩ := cons_of h33
  subst e
  clear h33
  obtain ⟨x34, l35, e, h35⟩ := cons_of h34
  subst e
  clear h34
  obtain ⟨x35, l36, e, h36⟩ := cons_of h35
  subst e
  clear h35
  obtain ⟨x36, l37, e, h37⟩ := cons_of h36
  subst e
  clear h36
  obtain ⟨x37, l38, e, h38⟩ := cons_of h37
  subst e
  clear h37
  obtain ⟨x38, l39, e, h39⟩ := cons_of h38
  subst e
  clear h38
  obtain ⟨x39, l40, e, h40⟩ := cons_of h39
  subst e
  clear h39
  obtain ⟨x40, l41, e, h41⟩ := cons_of h40
  subst e
  clear h40
  obtain rfl := List.length_eq_zero_iff.1 h41
  exact ⟨x0, x1, x2, x3, x4, x5, x6, x7, x8, x9, x10, x11, x12, x13, x14, x15, x16, x17, x18, x19, x20, x21, x22, x23, x24, x25, x26, x27, x28, x29, x30, x31, x32, x33, x34, x35, x36, x37, x38, x39, x40, rfl⟩
set_option maxRecDepth 4000 in
/-- An array of 74 values, written out. -/
theorem lit74 (t : Array Value) (h : t.size = 74) : ∃ x0 x1 x2 x3 x4 x5 x6 x7 x8 x9 x10 x11 x12 x13 x14 x15 x16 x17 x18 x19 x20 x21 x22 x23 x24 x25 x26 x27 x28 x29 x30 x31 x32 x33 x34 x35 x36 x37 x38 x39 x40 x41 x42 x43 x44 x45 x46 x47 x48 x49 x50 x51 x52 x53 x54 x55 x56 x57 x58 x59 x60 x61 x62 x63 x64 x65 x66 x67 x68 x69 x70 x71 x72 x73, t = List.toArray (x0 :: x1 :: x2 :: x3 :: x4 :: x5 :: x6 :: x7 :: x8 :: x9 :: x10 :: x11 :: x12 :: x13 :: x14 :: x15 :: x16 :: x17 :: x18 :: x19 :: x20 :: x21 :: x22 :: x23 :: x24 :: x25 :: x26 :: x27 :: x28 :: x29 :: x30 :: x31 :: x32 :: x33 :: x34 :: x35 :: x36 :: x37 :: x38 :: x39 :: x40 :: x41 :: x42 :: x43 :: x44 :: x45 :: x46 :: x47 :: x48 :: x49 :: x50 :: x51 :: x52 :: x53 :: x54 :: x55 :: x56 :: x57 :: x58 :: x59 :: x60 :: x61 :: x62 :: x63 :: x64 :: x65 :: x66 :: x67 :: x68 :: x69 :: x70 :: x71 :: x72 :: x73 :: []) := by
  rcases t with ⟨l⟩
  simp only [List.size_toArray] at h
  obtain ⟨x0, l1, e, h1⟩ := cons_of h
  subst e
  clear h
  obtain ⟨x1, l2, e, h2⟩ := cons_of h1
  subst e
  clear h1
  obtain ⟨x2, l3, e, h3⟩ := cons_of h2
  subst e
  clear h2
  obtain ⟨x3, l4, e, h4⟩ := cons_of h3
  subst e
  clear h3
  obtain ⟨x4, l5, e, h5⟩ := cons_of h4
  subst e
  clear h4
  obtain ⟨x5, l6, e, h6⟩ := cons_of h5
  subst e
  clear h5
  obtain ⟨x6, l7, e, h7⟩ := cons_of h6
  subst e
  clear h6
  obtain ⟨x7, l8, e, h8⟩ := cons_of h7
  subst e
  clear h7
  obtain ⟨x8, l9, e, h9⟩ := cons_of h8
  subst e
  clear h8
  obtain ⟨x9, l10, e, h10⟩ := cons_of h9
  subst e
  clear h9
  obtain ⟨x10, l11, e, h11⟩ := cons_of h10
  subst e
  clear h10
  obtain ⟨x11, l12, e, h12⟩ := cons_of h11
  subst e
  clear h11
  obtain ⟨x12, l13, e, h13⟩ := cons_of h12
  subst e
  clear h12
  obtain ⟨x13, l14, e, h14⟩ := cons_of h13
  subst e
  clear h13
  obtain ⟨x14, l15, e, h15⟩ := cons_of h14
  subst e
  clear h14
  obtain ⟨x15, l16, e, h16⟩ := cons_of h15
  subst e
  clear h15
  obtain ⟨x16, l17, e, h17⟩ := cons_of h16
  subst e
  clear h16
  obtain ⟨x17, l18, e, h18⟩ := cons_of h17
  subst e
  clear h17
  obtain ⟨x18, l19, e, h19⟩ := cons_of h18
  subst e
  clear h18
  obtain ⟨x19, l20, e, h20⟩ := cons_of h19
  subst e
  clear h19
  obtain ⟨x20, l21, e, h21⟩ := cons_of h20
  subst e
  clear h20
  obtain ⟨x21, l22, e, h22⟩ := cons_of h21
  subst e
  clear h21
  obtain ⟨x22, l23, e, h23⟩ := cons_of h22
  subst e
  clear h22
  obtain ⟨x23, l24, e, h24⟩ := cons_of h23
  subst e
  clear h23
  obtain ⟨x24, l25, e, h25⟩ := cons_of h24
  subst e
  clear h24
  obtain ⟨x25, l26, e, h26⟩ := cons_of h25
  subst e
  clear h25
  obtain ⟨x26, l27, e, h27⟩ := cons_of h26
  subst e
  clear h26
  obtain ⟨x27, l28, e, h28⟩ := cons_of h27
  subst e
  clear h27
  obtain ⟨x28, l29, e, h29⟩ := cons_of h28
  subst e
  clear h28
  obtain ⟨x29, l30, e, h30⟩ := cons_of h29
  subst e
  clear h29
  obtain ⟨x30, l31, e, h31⟩ := cons_of h30
  subst e
  clear h30
  obtain ⟨x31, l32, e, h32⟩ := cons_of h31
  subst e
  clear h31
  obtain ⟨x32, l33, e, h33⟩ := cons_of h32
  subst e
  clear h32
  obtain ⟨x33, l34, e, h34⟩ := cons_of h33
  subst e
  clear h33
  obtain ⟨x34, l35, e, h35⟩ := cons_of h34
  subst e
  clear h34
  obtain ⟨x35, l36, e, h36⟩ := cons_of h35
  subst e
  clear h35
  obtain ⟨x36, l37, e, h37⟩ := cons_of h36
  subst e
  clear h36
  obtain ⟨x37, l38, e, h38⟩ := cons_of h37
  subst e
  clear h37
  obtain ⟨x38, l39, e, h39⟩ := cons_of h38
  subst e
  clear h38
  obtain ⟨x39, l40, e, h40⟩ := cons_of h39
  subst e
  clear h39
  obtain ⟨x40, l41, e, h41⟩ := cons_of h40
  subst e
  clear h40
  obtain ⟨x41, l42, e, h42⟩ := cons_of h41
  subst e
  clear h41
  obtain ⟨x42, l43, e, h43⟩ := cons_of h42
  subst e
  clear h42
  obtain ⟨x43, l44, e, h44⟩ := cons_of h43
  subst e
  clear h43
  obtain ⟨x44, l45, e, h45⟩ := cons_of h44
  subst e
  clear h44
  obtain ⟨x45, l46, e, h46⟩ := cons_of h45
  subst e
  clear h45
  obtain ⟨x46, l47, e, h47⟩ := cons_of h46
  subst e
  clear h46
  obtain ⟨x47, l48, e, h48⟩ := cons_of h47
  subst e
  clear h47
  obtain ⟨x48, l49, e, h49⟩ := cons_of h48
  subst e
  clear h48
  obtain ⟨x49, l50, e, h50⟩ := cons_of h49
  subst e
  clear h49
  obtain ⟨x50, l51, e, h51⟩ := cons_of h50
  subst e
  clear h50
  obtain ⟨x51, l52, e, h52⟩ := cons_of h51
  subst e
  clear h51
  obtain ⟨x52, l53, e, h53⟩ := cons_of h52
  subst e
  clear h52
  obtain ⟨x53, l54, e, h54⟩ := cons_of h53
  subst e
  clear h53
  obtain ⟨x54, l55, e, h55⟩ := cons_of h54
  subst e
  clear h54
  obtain ⟨x55, l56, e, h56⟩ := cons_of h55
  subst e
  clear h55
  obtain ⟨x56, l57, e, h57⟩ := cons_of h56
  subst e
  clear h56
  obtain ⟨x57, l58, e, h58⟩ := cons_of h57
  subst e
  clear h57
  obtain ⟨x58, l59, e, h59⟩ := cons_of h58
  subst e
  clear h58
  obtain ⟨x59, l60, e, h60⟩ := cons_of h59
  subst e
  clear h59
  obtain ⟨x60, l61, e, h61⟩ := cons_of h60
  subst e
  clear h60
  obtain ⟨x61, l62, e, h62⟩ := cons_of h61
  subst e
  clear h61
  obtain ⟨x62, l63, e, h63⟩ := cons_of h62
  subst e
  clear h62
  obtain ⟨x63, l64, e, h64⟩ := cons_of h63
  subst e
  clear h63
  obtain ⟨x64, l65, e, h65⟩ := cons_of h64
  subst e
  clear h64
  obtain ⟨x65, l66, e, h66⟩ := cons_of h65
  subst e
  clear h65
  obtain ⟨x66, l67, e, h67⟩ := cons_of h66
  subst e
  clear h66
  obtain ⟨x67, l68, e, h68⟩ := cons_of h67
  subst e
  clear h67
  obtain ⟨x68, l69, e, h69⟩ := cons_of h68
  subst e
  clear h68
  obtain ⟨x69, l70, e, h70⟩ := cons_of h69
  subst e
  clear h69
  obtain ⟨x70, l71, e, h71⟩ := cons_of h70
  subst e
  clear h70
  obtain ⟨x71, l72, e, h72⟩ := cons_of h71
  subst e
  clear h71
  obtain ⟨x72, l73, e, h73⟩ := cons_of h72
  subst e
  clear h72
  obtain ⟨x73, l74, e, h74⟩ := cons_of h73
  subst e
  clear h73
  obtain rfl := List.length_eq_zero_iff.1 h74
  exact ⟨x0, x1, x2, x3, x4, x5, x6, x7, x8, x9, x10, x11, x12, x13, x14, x15, x16, x17, x18, x19, x20, x21, x22, x23, x24, x25, x26, x27, x28, x29, x30, x31, x32, x33, x34, x35, x36, x37, x38, x39, x40, x41, x42, x43, x44, x45, x46, x47, x48, x49, x50, x51, x52, x53, x54, x55, x56, x57, x58, x59, x60, x61, x62, x63, x64, x65, x66, x67, x68, x69, x70, x71, x72, x73, rfl⟩
set_option maxRecDepth 4000 in
/-- An array of 84 values, written out. -/
theorem lit84 (t : Array Value) (h : t.size = 84) : ∃ x0 x1 x2 x3 x4 x5 x6 x7 x8 x9 x10 x11 x12 x13 x14 x15 x16 x17 x18 x19 x20 x21 x22 x23 x24 x25 x26 x27 x28 x29 x30 x31 x32 x33 x34 x35 x36 x37 x38 x39 x40 x41 x42 x43 x44 x45 x46 x47 x48 x49 x50 x51 x52 x53 x54 x55 x56 x57 x58 x59 x60 x61 x62 x63 x64 x65 x66 x67 x68 x69 x70 x71 x72 x73 x74 x75 x76 x77 x78 x79 x80 x81 x82 x83, t = List.toArray (x0 :: x1 :: x2 :: x3 :: x4 :: x5 :: x6 :: x7 :: x8 :: x9 :: x10 :: x11 :: x12 :: x13 :: x14 :: x15 :: x16 :: x17 :: x18 :: x19 :: x20 :: x21 :: x22 :: x23 :: x24 :: x25 :: x26 :: x27 :: x28 :: x29 :: x30 :: x31 :: x32 :: x33 :: x34 :: x35 :: x36 :: x37 :: x38 :: x39 :: x40 :: x41 :: x42 :: x43 :: x44 :: x45 :: x46 :: x47 :: x48 :: x49 :: x50 :: x51 :: x52 :: x53 :: x54 :: x55 :: x56 :: x57 :: x58 :: x59 :: x60 :: x61 :: x62 :: x63 :: x64 :: x65 :: x66 :: x67 :: x68 :: x69 :: x70 :: x71 :: x72 :: x73 :: x74 :: x75 :: x76 :: x77 :: x78 :: x79 :: x80 :: x81 :: x82 :: x83 :: []) := by
  rcases t with ⟨l⟩
  simp only [List.size_toArray] at h
  obtain ⟨x0, l1, e, h1⟩ := cons_of h
  subst e
  clear h
  obtain ⟨x1, l2, e, h2⟩ := cons_of h1
  subst e
  clear h1
  obtain ⟨x2, l3, e, h3⟩ := cons_of h2
  subst e
  clear h2
  obtain ⟨x3, l4, e, h4⟩ := cons_of h3
  subst e
  clear h3
  obtain ⟨x4, l5, e, h5⟩ := cons_of h4
  subst e
  clear h4
  obtain ⟨x5, l6, e, h6⟩ := cons_of h5
  subst e
  clear h5
  obtain ⟨x6, l7, e, h7⟩ := cons_of h6
  subst e
  clear h6
  obtain ⟨x7, l8, e, h8⟩ := cons_of h7
  subst e
  clear h7
  obtain ⟨x8, l9, e, h9⟩ := cons_of h8
  subst e
  clear h8
  obtain ⟨x9, l10, e, h10⟩ := cons_of h9
  subst e
  clear h9
  obtain ⟨x10, l11, e, h11⟩ := cons_of h10
  subst e
  clear h10
  obtain ⟨x11, l12, e, h12⟩ := cons_of h11
  subst e
  clear h11
  obtain ⟨x12, l13, e, h13⟩ := cons_of h12
  subst e
  clear h12
  obtain ⟨x13, l14, e, h14⟩ := cons_of h13
  subst e
  clear h13
  obtain ⟨x14, l15, e, h15⟩ := cons_of h14
  subst e
  clear h14
  obtain ⟨x15, l16, e, h16⟩ := cons_of h15
  subst e
  clear h15
  obtain ⟨x16, l17, e, h17⟩ := cons_of h16
  subst e
  clear h16
  obtain ⟨x17, l18, e, h18⟩ := cons_of h17
  subst e
  clear h17
  obtain ⟨x18, l19, e, h19⟩ := cons_of h18
  subst e
  clear h18
  obtain ⟨x19, l20, e, h20⟩ := cons_of h19
  subst e
  clear h19
  obtain ⟨x20, l21, e, h21⟩ := cons_of h20
  subst e
  clear h20
  obtain ⟨x21, l22, e, h22⟩ := cons_of h21
  subst e
  clear h21
  obtain ⟨x22, l23, e, h23⟩ := cons_of h22
  subst e
  clear h22
  obtain ⟨x23, l24, e, h24⟩ := cons_of h23
  subst e
  clear h23
  obtain ⟨x24, l25, e, h25⟩ := cons_of h24
  subst e
  clear h24
  obtain ⟨x25, l26, e, h26⟩ := cons_of h25
  subst e
  clear h25
  obtain ⟨x26, l27, e, h27⟩ := cons_of h26
  subst e
  clear h26
  obtain ⟨x27, l28, e, h28⟩ := cons_of h27
  subst e
  clear h27
  obtain ⟨x28, l29, e, h29⟩ := cons_of h28
  subst e
  clear h28
  obtain ⟨x29, l30, e, h30⟩ := cons_of h29
  subst e
  clear h29
  obtain ⟨x30, l31, e, h31⟩ := cons_of h30
  subst e
  clear h30
  obtain ⟨x31, l32, e, h32⟩ := cons_of h31
  subst e
  clear h31
  obtain ⟨x32, l33, e, h33⟩ := cons_of h32
  subst e
  clear h32
  obtain ⟨x33, l34, e, h34⟩ := cons_of h33
  subst e
  clear h33
  obtain ⟨x34, l35, e, h35⟩ := cons_of h34
  subst e
  clear h34
  obtain ⟨x35, l36, e, h36⟩ := cons_of h35
  subst e
  clear h35
  obtain ⟨x36, l37, e, h37⟩ := cons_of h36
  subst e
  clear h36
  obtain ⟨x37, l38, e, h38⟩ := cons_of h37
  subst e
  clear h37
  obtain ⟨x38, l39, e, h39⟩ := cons_of h38
  subst e
  clear h38
  obtain ⟨x39, l40, e, h40⟩ := cons_of h39
  subst e
  clear h39
  obtain ⟨x40, l41, e, h41⟩ := cons_of h40
  subst e
  clear h40
  obtain ⟨x41, l42, e, h42⟩ := cons_of h41
  subst e
  clear h41
  obtain ⟨x42, l43, e, h43⟩ := cons_of h42
  subst e
  clear h42
  obtain ⟨x43, l44, e, h44⟩ := cons_of h43
  subst e
  clear h43
  obtain ⟨x44, l45, e, h45⟩ := cons_of h44
  subst e
  clear h44
  obtain ⟨x45, l46, e, h46⟩ := cons_of h45
  subst e
  clear h45
  obtain ⟨x46, l47, e, h47⟩ := cons_of h46
  subst e
  clear h46
  obtain ⟨x47, l48, e, h48⟩ := cons_of h47
  subst e
  clear h47
  obtain ⟨x48, l49, e, h49⟩ := cons_of h48
  subst e
  clear h48
  obtain ⟨x49, l50, e, h50⟩ := cons_of h49
  subst e
  clear h49
  obtain ⟨x50, l51, e, h51⟩ := cons_of h50
  subst e
  clear h50
  obtain ⟨x51, l52, e, h52⟩ := cons_of h51
  subst e
  clear h51
  obtain ⟨x52, l53, e, h53⟩ := cons_of h52
  subst e
  clear h52
  obtain ⟨x53, l54, e, h54⟩ := cons_of h53
  subst e
  clear h53
  obtain ⟨x54, l55, e, h55⟩ := cons_of h54
  subst e
  clear h54
  obtain ⟨x55, l56, e, h56⟩ := cons_of h55
  subst e
  clear h55
  obtain ⟨x56, l57, e, h57⟩ := cons_of h56
  subst e
  clear h56
  obtain ⟨x57, l58, e, h58⟩ := cons_of h57
  subst e
  clear h57
  obtain ⟨x58, l59, e, h59⟩ := cons_of h58
  subst e
  clear h58
  obtain ⟨x59, l60, e, h60⟩ := cons_of h59
  subst e
  clear h59
  obtain ⟨x60, l61, e, h61⟩ := cons_of h60
  subst e
  clear h60
  obtain ⟨x61, l62, e, h62⟩ := cons_of h61
  subst e
  clear h61
  obtain ⟨x62, l63, e, h63⟩ := cons_of h62
  subst e
  clear h62
  obtain ⟨x63, l64, e, h64⟩ := cons_of h63
  subst e
  clear h63
  obtain ⟨x64, l65, e, h65⟩ := cons_of h64
  subst e
  clear h64
  obtain ⟨x65, l66, e, h66⟩ := cons_of h65
  subst e
  clear h65
  obtain ⟨x66, l67, e, h67⟩ := cons_of h66
  subst e
  clear h66
  obtain ⟨x67, l68, e, h68⟩ := cons_of h67
  subst e
  clear h67
  obtain ⟨x68, l69, e, h69⟩ := cons_of h68
  subst e
  clear h68
  obtain ⟨x69, l70, e, h70⟩ := cons_of h69
  subst e
  clear h69
  obtain ⟨x70, l71, e, h71⟩ := cons_of h70
  subst e
  clear h70
  obtain ⟨x71, l72, e, h72⟩ := cons_of h71
  subst e
  clear h71
  obtain ⟨x72, l73, e, h73⟩ := cons_of h72
  subst e
  clear h72
  obtain ⟨x73, l74, e, h74⟩ := cons_of h73
  subst e
  clear h73
  obtain ⟨x74, l75, e, h75⟩ := cons_of h74
  subst e
  clear h74
  obtain ⟨x75, l76, e, h76⟩ := cons_of h75
  subst e
  clear h75
  obtain ⟨x76, l77, e, h77⟩ := cons_of h76
  subst e
  clear h76
  obtain ⟨x77, l78, e, h78⟩ := cons_of h77
  subst e
  clear h77
  obtain ⟨x78, l79, e, h79⟩ := cons_of h78
  subst e
  clear h78
  obtain ⟨x79, l80, e, h80⟩ := cons_of h79
  subst e
  clear h79
  obtain ⟨x80, l81, e, h81⟩ := cons_of h80
  subst e
  clear h80
  obtain ⟨x81, l82, e, h82⟩ := cons_of h81
  subst e
  clear h81
  obtain ⟨x82, l83, e, h83⟩ := cons_of h82
  subst e
  clear h82
  obtain ⟨x83, l84, e, h84⟩ := cons_of h83
  subst e
  clear h83
  obtain rfl := List.length_eq_zero_iff.1 h84
  exact ⟨x0, x1, x2, x3, x4, x5, x6, x7, x8, x9, x10, x11, x12, x13, x14, x15, x16, x17, x18, x19, x20, x21, x22, x23, x24, x25, x26, x27, x28, x29, x30, x31, x32, x33, x34, x35, x36, x37, x38, x39, x40, x41, x42, x43, x44, x45, x46, x47, x48, x49, x50, x51, x52, x53, x54, x55, x56, x57, x58, x59, x60, x61, x62, x63, x64, x65, x66, x67, x68, x69, x70, x71, x72, x73, x74, x75, x76, x77, x78, x79, x80, x81, x82, x83, rfl⟩
set_option maxRecDepth 4000 in
/-- An array of 143 values, written out. -/
theorem lit143 (t : Array Value) (h : t.size = 143) : ∃ x0 x1 x2 x3 x4 x5 x6 x7 x8 x9 x10 x11 x12 x13 x14 x15 x16 x17 x18 x19 x20 x21 x22 x23 x24 x25 x26 x27 x28 x29 x30 x31 x32 x33 x34 x35 x36 x37 x38 x39 x40 x41 x42 x43 x44 x45 x46 x47 x48 x49 x50 x51 x52 x53 x54 x55 x56 x57 x58 x59 x60 x61 x62 x63 x64 x65 x66 x67 x68 x69 x70 x71 x72 x73 x74 x75 x76 x77 x78 x79 x80 x81 x82 x83 x84 x85 x86 x87 x88 x89 x90 x91 x92 x93 x94 x95 x96 x97 x98 x99 x100 x101 x102 x103 x104 x105 x106 x107 x108 x109 x110 x111 x112 x113 x114 x115 x116 x117 x118 x119 x120 x121 x122 x123 x124 x125 x126 x127 x128 x129 x130 x131 x132 x133 x134 x135 x136 x137 x138 x139 x140 x141 x142, t = List.toArray (x0 :: x1 :: x2 :: x3 :: x4 :: x5 :: x6 :: x7 :: x8 :: x9 :: x10 :: x11 :: x12 :: x13 :: x14 :: x15 :: x16 :: x17 :: x18 :: x19 :: x20 :: x21 :: x22 :: x23 :: x24 :: x25 :: x26 :: x27 :: x28 :: x29 :: x30 :: x31 :: x32 :: x33 :: x34 :: x35 :: x36 :: x37 :: x38 :: x39 :: x40 :: x41 :: x42 :: x43 :: x44 :: x45 :: x46 :: x47 :: x48 :: x49 :: x50 :: x51 :: x52 :: x53 :: x54 :: x55 :: x56 :: x57 :: x58 :: x59 :: x60 :: x61 :: x62 :: x63 :: x64 :: x65 :: x66 :: x67 :: x68 :: x69 :: x70 :: x71 :: x72 :: x73 :: x74 :: x75 :: x76 :: x77 :: x78 :: x79 :: x80 :: x81 :: x82 :: x83 :: x84 :: x85 :: x86 :: x87 :: x88 :: x89 :: x90 :: x91 :: x92 :: x93 :: x94 :: x95 :: x96 :: x97 :: x98 :: x99 :: x100 :: x101 :: x102 :: x103 :: x104 :: x105 :: x106 :: x107 :: x108 :: x109 :: x110 :: x111 :: x112 :: x113 :: x114 :: x115 :: x116 :: x117 :: x118 :: x119 :: x120 :: x121 :: x122 :: x123 :: x124 :: x125 :: x126 :: x127 :: x128 :: x129 :: x130 :: x131 :: x132 :: x133 :: x134 :: x135 :: x136 :: x137 :: x138 :: x139 :: x140 :: x141 :: x142 :: []) := by
  rcases t with ⟨l⟩
  simp only [List.size_toArray] at h
  obtain ⟨x0, l1, e, h1⟩ := cons_of h
  subst e
  clear h
  obtain ⟨x1, l2, e, h2⟩ := cons_of h1
  subst e
  clear h1
  obtain ⟨x2, l3, e, h3⟩ := cons_of h2
  subst e
  clear h2
  obtain ⟨x3, l4, e, h4⟩ := cons_of h3
  subst e
  clear h3
  obtain ⟨x4, l5, e, h5⟩ := cons_of h4
  subst e
  clear h4
  obtain ⟨x5, l6, e, h6⟩ := cons_of h5
  subst e
  clear h5
  obtain ⟨x6, l7, e, h7⟩ := cons_of h6
  subst e
  clear h6
  obtain ⟨x7, l8, e, h8⟩ := cons_of h7
  subst e
  clear h7
  obtain ⟨x8, l9, e, h9⟩ := cons_of h8
  subst e
  clear h8
  obtain ⟨x9, l10, e, h10⟩ := cons_of h9
  subst e
  clear h9
  obtain ⟨x10, l11, e, h11⟩ := cons_of h10
  subst e
  clear h10
  obtain ⟨x11, l12, e, h12⟩ := cons_of h11
  subst e
  clear h11
  obtain ⟨x12, l13, e, h13⟩ := cons_of h12
  subst e
  clear h12
  obtain ⟨x13, l14, e, h14⟩ := cons_of h13
  subst e
  clear h13
  obtain ⟨x14, l15, e, h15⟩ := cons_of h14
  subst e
  clear h14
  obtain ⟨x15, l16, e, h16⟩ := cons_of h15
  subst e
  clear h15
  obtain ⟨x16, l17, e, h17⟩ := cons_of h16
  subst e
  clear h16
  obtain ⟨x17, l18, e, h18⟩ := cons_of h17
  subst e
  clear h17
  obtain ⟨x18, l19, e, h19⟩ := cons_of h18
  subst e
  clear h18
  obtain ⟨x19, l20, e, h20⟩ := cons_of h19
  subst e
  clear h19
  obtain ⟨x20, l21, e, h21⟩ := cons_of h20
  subst e
  clear h20
  obtain ⟨x21, l22, e, h22⟩ := cons_of h21
  subst e
  clear h21
  obtain ⟨x22, l23, e, h23⟩ := cons_of h22
  subst e
  clear h22
  obtain ⟨x23, l24, e, h24⟩ := cons_of h23
  subst e
  clear h23
  obtain ⟨x24, l25, e, h25⟩ := cons_of h24
  subst e
  clear h24
  obtain ⟨x25, l26, e, h26⟩ := cons_of h25
  subst e
  clear h25
  obtain ⟨x26, l27, e, h27⟩ := cons_of h26
  subst e
  clear h26
  obtain ⟨x27, l28, e, h28⟩ := cons_of h27
  subst e
  clear h27
  obtain ⟨x28, l29, e, h29⟩ := cons_of h28
  subst e
  clear h28
  obtain ⟨x29, l30, e, h30⟩ := cons_of h29
  subst e
  clear h29
  obtain ⟨x30, l31, e, h31⟩ := cons_of h30
  subst e
  clear h30
  obtain ⟨x31, l32, e, h32⟩ := cons_of h31
  subst e
  clear h31
  obtain ⟨x32, l33, e, h33⟩ := cons_of h32
  subst e
  clear h32
  obtain ⟨x33, l34, e, h34⟩ := cons_of h33
  subst e
  clear h33
  obtain ⟨x34, l35, e, h35⟩ := cons_of h34
  subst e
  clear h34
  obtain ⟨x35, l36, e, h36⟩ := cons_of h35
  subst e
  clear h35
  obtain ⟨x36, l37, e, h37⟩ := cons_of h36
  subst e
  clear h36
  obtain ⟨x37, l38, e, h38⟩ := cons_of h37
  subst e
  clear h37
  obtain ⟨x38, l39, e, h39⟩ := cons_of h38
  subst e
  clear h38
  obtain ⟨x39, l40, e, h40⟩ := cons_of h39
  subst e
  clear h39
  obtain ⟨x40, l41, e, h41⟩ := cons_of h40
  subst e
  clear h40
  obtain ⟨x41, l42, e, h42⟩ := cons_of h41
  subst e
  clear h41
  obtain ⟨x42, l43, e, h43⟩ := cons_of h42
  subst e
  clear h42
  obtain ⟨x43, l44, e, h44⟩ := cons_of h43
  subst e
  clear h43
  obtain ⟨x44, l45, e, h45⟩ := cons_of h44
  subst e
  clear h44
  obtain ⟨x45, l46, e, h46⟩ := cons_of h45
  subst e
  clear h45
  obtain ⟨x46, l47, e, h47⟩ := cons_of h46
  subst e
  clear h46
  obtain ⟨x47, l48, e, h48⟩ := cons_of h47
  subst e
  clear h47
  obtain ⟨x48, l49, e, h49⟩ := cons_of h48
  subst e
  clear h48
  obtain ⟨x49, l50, e, h50⟩ := cons_of h49
  subst e
  clear h49
  obtain ⟨x50, l51, e, h51⟩ := cons_of h50
  subst e
  clear h50
  obtain ⟨x51, l52, e, h52⟩ := cons_of h51
  subst e
  clear h51
  obtain ⟨x52, l53, e, h53⟩ := cons_of h52
  subst e
  clear h52
  obtain ⟨x53, l54, e, h54⟩ := cons_of h53
  subst e
  clear h53
  obtain ⟨x54, l55, e, h55⟩ := cons_of h54
  subst e
  clear h54
  obtain ⟨x55, l56, e, h56⟩ := cons_of h55
  subst e
  clear h55
  obtain ⟨x56, l57, e, h57⟩ := cons_of h56
  subst e
  clear h56
  obtain ⟨x57, l58, e, h58⟩ := cons_of h57
  subst e
  clear h57
  obtain ⟨x58, l59, e, h59⟩ := cons_of h58
  subst e
  clear h58
  obtain ⟨x59, l60, e, h60⟩ := cons_of h59
  subst e
  clear h59
  obtain ⟨x60, l61, e, h61⟩ := cons_of h60
  subst e
  clear h60
  obtain ⟨x61, l62, e, h62⟩ := cons_of h61
  subst e
  clear h61
  obtain ⟨x62, l63, e, h63⟩ := cons_of h62
  subst e
  clear h62
  obtain ⟨x63, l64, e, h64⟩ := cons_of h63
  subst e
  clear h63
  obtain ⟨x64, l65, e, h65⟩ := cons_of h64
  subst e
  clear h64
  obtain ⟨x65, l66, e, h66⟩ := cons_of h65
  subst e
  clear h65
  obtain ⟨x66, l67, e, h67⟩ := cons_of h66
  subst e
  clear h66
  obtain ⟨x67, l68, e, h68⟩ := cons_of h67
  subst e
  clear h67
  obtain ⟨x68, l69, e, h69⟩ := cons_of h68
  subst e
  clear h68
  obtain ⟨x69, l70, e, h70⟩ := cons_of h69
  subst e
  clear h69
  obtain ⟨x70, l71, e, h71⟩ := cons_of h70
  subst e
  clear h70
  obtain ⟨x71, l72, e, h72⟩ := cons_of h71
  subst e
  clear h71
  obtain ⟨x72, l73, e, h73⟩ := cons_of h72
  subst e
  clear h72
  obtain ⟨x73, l74, e, h74⟩ := cons_of h73
  subst e
  clear h73
  obtain ⟨x74, l75, e, h75⟩ := cons_of h74
  subst e
  clear h74
  obtain ⟨x75, l76, e, h76⟩ := cons_of h75
  subst e
  clear h75
  obtain ⟨x76, l77, e, h77⟩ := cons_of h76
  subst e
  clear h76
  obtain ⟨x77, l78, e, h78⟩ := cons_of h77
  subst e
  clear h77
  obtain ⟨x78, l79, e, h79⟩ := cons_of h78
  subst e
  clear h78
  obtain ⟨x79, l80, e, h80⟩ := cons_of h79
  subst e
  clear h79
  obtain ⟨x80, l81, e, h81⟩ := cons_of h80
  subst e
  clear h80
  obtain ⟨x81, l82, e, h82⟩ := cons_of h81
  subst e
  clear h81
  obtain ⟨x82, l83, e, h83⟩ := cons_of h82
  subst e
  clear h82
  obtain ⟨x83, l84, e, h84⟩ := cons_of h83
  subst e
  clear h83
  obtain ⟨x84, l85, e, h85⟩ := cons_of h84
  subst e
  clear h84
  obtain ⟨x85, l86, e, h86⟩ := cons_of h85
  subst e
  clear h85
  obtain ⟨x86, l87, e, h87⟩ := cons_of h86
  subst e
  clear h86
  obtain ⟨x87, l88, e, h88⟩ := cons_of h87
  subst e
  clear h87
  obtain ⟨x88, l89, e, h89⟩ := cons_of h88
  subst e
  clear h88
  obtain ⟨x89, l90, e, h90⟩ := cons_of h89
  subst e
  clear h89
  obtain ⟨x90, l91, e, h91⟩ := cons_of h90
  subst e
  clear h90
  obtain ⟨x91, l92, e, h92⟩ := cons_of h91
  subst e
  clear h91
  obtain ⟨x92, l93, e, h93⟩ := cons_of h92
  subst e
  clear h92
  obtain ⟨x93, l94, e, h94⟩ := cons_of h93
  subst e
  clear h93
  obtain ⟨x94, l95, e, h95⟩ := cons_of h94
  subst e
  clear h94
  obtain ⟨x95, l96, e, h96⟩ := cons_of h95
  subst e
  clear h95
  obtain ⟨x96, l97, e, h97⟩ := cons_of h96
  subst e
  clear h96
  obtain ⟨x97, l98, e, h98⟩ := cons_of h97
  subst e
  clear h97
  obtain ⟨x98, l99, e, h99⟩ := cons_of h98
  subst e
  clear h98
  obtain ⟨x99, l100, e, h100⟩ := cons_of h99
  subst e
  clear h99
  obtain ⟨x100, l101, e, h101⟩ := cons_of h100
  subst e
  clear h100
  obtain ⟨x101, l102, e, h102⟩ := cons_of h101
  subst e
  clear h101
  obtain ⟨x102, l103, e, h103⟩ := cons_of h102
  subst e
  clear h102
  obtain ⟨x103, l104, e, h104⟩ := cons_of h103
  subst e
  clear h103
  obtain ⟨x104, l105, e, h105⟩ := cons_of h104
  subst e
  clear h104
  obtain ⟨x105, l106, e, h106⟩ := cons_of h105
  subst e
  clear h105
  obtain ⟨x106, l107, e, h107⟩ := cons_of h106
  subst e
  clear h106
  obtain ⟨x107, l108, e, h108⟩ := cons_of h107
  subst e
  clear h107
  obtain ⟨x108, l109, e, h109⟩ := cons_of h108
  subst e
  clear h108
  obtain ⟨x109, l110, e, h110⟩ := cons_of h109
  subst e
  clear h109
  obtain ⟨x110, l111, e, h111⟩ := cons_of h110
  subst e
  clear h110
  obtain ⟨x111, l112, e, h112⟩ := cons_of h111
  subst e
  clear h111
  obtain ⟨x112, l113, e, h113⟩ := cons_of h112
  subst e
  clear h112
  obtain ⟨x113, l114, e, h114⟩ := cons_of h113
  subst e
  clear h113
  obtain ⟨x114, l115, e, h115⟩ := cons_of h114
  subst e
  clear h114
  obtain ⟨x115, l116, e, h116⟩ := cons_of h115
  subst e
  clear h115
  obtain ⟨x116, l117, e, h117⟩ := cons_of h116
  subst e
  clear h116
  obtain ⟨x117, l118, e, h118⟩ := cons_of h117
  subst e
  clear h117
  obtain ⟨x118, l119, e, h119⟩ := cons_of h118
  subst e
  clear h118
  obtain ⟨x119, l120, e, h120⟩ := cons_of h119
  subst e
  clear h119
  obtain ⟨x120, l121, e, h121⟩ := cons_of h120
  subst e
  clear h120
  obtain ⟨x121, l122, e, h122⟩ := cons_of h121
  subst e
  clear h121
  obtain ⟨x122, l123, e, h123⟩ := cons_of h122
  subst e
  clear h122
  obtain ⟨x123, l124, e, h124⟩ := cons_of h123
  subst e
  clear h123
  obtain ⟨x124, l125, e, h125⟩ := cons_of h124
  subst e
  clear h124
  obtain ⟨x125, l126, e, h126⟩ := cons_of h125
  subst e
  clear h125
  obtain ⟨x126, l127, e, h127⟩ := cons_of h126
  subst e
  clear h126
  obtain ⟨x127, l128, e, h128⟩ := cons_of h127
  subst e
  clear h127
  obtain ⟨x128, l129, e, h129⟩ := cons_of h128
  subst e
  clear h128
  obtain ⟨x129, l130, e, h130⟩ := cons_of h129
  subst e
  clear h129
  obtain ⟨x130, l131, e, h131⟩ := cons_of h130
  subst e
  clear h130
  obtain ⟨x131, l132, e, h132⟩ := cons_of h131
  subst e
  clear h131
  obtain ⟨x132, l133, e, h133⟩ := cons_of h132
  subst e
  clear h132
  obtain ⟨x133, l134, e, h134⟩ := cons_of h133
  subst e
  clear h133
  obtain ⟨x134, l135, e, h135⟩ := cons_of h134
  subst e
  clear h134
  obtain ⟨x135, l136, e, h136⟩ := cons_of h135
  subst e
  clear h135
  obtain ⟨x136, l137, e, h137⟩ := cons_of h136
  subst e
  clear h136
  obtain ⟨x137, l138, e, h138⟩ := cons_of h137
  subst e
  clear h137
  obtain ⟨x138, l139, e, h139⟩ := cons_of h138
  subst e
  clear h138
  obtain ⟨x139, l140, e, h140⟩ := cons_of h139
  subst e
  clear h139
  obtain ⟨x140, l141, e, h141⟩ := cons_of h140
  subst e
  clear h140
  obtain ⟨x141, l142, e, h142⟩ := cons_of h141
  subst e
  clear h141
  obtain ⟨x142, l143, e, h143⟩ := cons_of h142
  subst e
  clear h142
  obtain rfl := List.length_eq_zero_iff.1 h143
  exact ⟨x0, x1, x2, x3, x4, x5, x6, x7, x8, x9, x10, x11, x12, x13, x14, x15, x16, x17, x18, x19, x20, x21, x22, x23, x24, x25, x26, x27, x28, x29, x30, x31, x32, x33, x34, x35, x36, x37, x38, x39, x40, x41, x42, x43, x44, x45, x46, x47, x48, x49, x50, x51, x52, x53, x54, x55, x56, x57, x58, x59, x60, x61, x62, x63, x64, x65, x66, x67, x68, x69, x70, x71, x72, x73, x74, x75, x76, x77, x78, x79, x80, x81, x82, x83, x84, x85, x86, x87, x88, x89, x90, x91, x92, x93, x94, x95, x96, x97, x98, x99, x100, x101, x102, x103, x104, x105, x106, x107, x108, x109, x110, x111, x112, x113, x114, x115, x116, x117, x118, x119, x120, x121, x122, x123, x124, x125, x126, x127, x128, x129, x130, x131, x132, x133, x134, x135, x136, x137, x138, x139, x140, x141, x142, rfl⟩
end Go.Proofs.Ytiemacjmipiakaa.Nm
