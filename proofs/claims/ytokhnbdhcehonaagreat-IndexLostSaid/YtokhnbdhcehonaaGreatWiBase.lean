/- index: what with and without lean on. -/
import Derived.Test.YtokhnbdhcehonaaGreatIn
import Derived.Test.YtokhnbdhcehonaaGreatDl
import Derived.Test.YtokhnbdhcehonaaGreatCl
import Derived.Test.YtokhnbdhcehonaaGreatFd
set_option linter.unusedSimpArgs false
set_option linter.unusedVariables false
